import Derived.Test.YtocilenpboklbaaGreatDoorHqJ
set_option maxRecDepth 100000
set_option linter.all false
namespace Go.Ev
noncomputable section
noncomputable def mV1 : SE := .v 1
noncomputable def bna : List AV := [.gv (.str (.s 3) [])]
noncomputable def bm7 : List HO := []
noncomputable def bm8 : List HO := []
noncomputable def bm9 : TR := .ret (sX (.len (.s 3)))
noncomputable def bm6 : TM := .mk 68 bna 256 bm7 ([.mk true (.c 20000) (.len (.s 3)) false, .mk false (.app 228 (.g (.s 3) .nil)) (.c 1) true] ++ []) none bm9 260 bm8
noncomputable def bdl : List AV := [vI 1]
noncomputable def bdi : List HO := []
noncomputable def bdj : List HO := []
noncomputable def bdk : TR := .ret (.gv (.str (.app 121 (.i (.v 1) .nil)) []))
noncomputable def dgr (m : SE) : TM := .mk 86 bdl 256 bdi ([.mk true (.v 1) (.c 0) false, .mk true (.c 9223372036854775807) (.v 1) false] ++ []) (some (mV1, m)) bdk 256 bdj
noncomputable def bh9 : TM := .mk 86 bdl 256 bdi ([.mk true (.v 1) (.c 0) false, .mk true (.c 9223372036854775807) (.v 1) false] ++ []) none bdk 256 bdj
noncomputable def bie : List AV := [vI 1]
noncomputable def bib : List HO := []
noncomputable def bic : List HO := []
noncomputable def bid : TR := .ret (.gv (.str (.app 121 (.i (.v 1) .nil)) []))
noncomputable def bia : TM := .mk 40 bie 256 bib ([.mk true (.v 1) (.c (-9223372036854775808)) false, .mk true (.c 9223372036854775807) (.v 1) false] ++ []) none bid 256 bic
noncomputable def aqk : List AV := [hpp, .ptr (K.of 257) 0, vI 1]
noncomputable def aqj : List HO := [hH 256 (.s 5), bx 257 111 [.gv (.sl (K.of 258) 6 (.c 62) []), .map (K.of 259)], .mk 258 (.gob (.junk 171)), .mk 259 (.gob (.gmap (.s 4)))]
noncomputable def bbe : List HO := [hH 256 (.s 5), bx 257 111 [.gv (.sl (K.of 258) 6 (.c 62) []), .map (K.of 259)], .mk 258 (.gob (.junk 171)), .mk 259 (.gob (.gmap (.s 4))), bx 260 3 [sX (.v 1)]]
noncomputable def bbf : TR := .ret (.slice (K.of 260) 0 1 1 none)
noncomputable def a36 : TM := .mk 44 aqk 260 aqj ([.mk false (.app 221 (.g (.s 5) .nil)) (.c 1) true, .mk true (.v 1) (.c 37) false, .mk true (.c 61) (.v 1) false] ++ [.mk true (.v 1) (.c 39) true]) none bbf 300 bbe
noncomputable def bbg : List HO := [hH 256 (.s 5), bx 257 111 [.gv (.sl (K.of 258) 6 (.c 62) []), .map (K.of 259)], .mk 258 (.gob (.junk 171)), .mk 259 (.gob (.gmap (.s 4))), bx 260 3 [sX (.v 1), sX (.c 37)]]
noncomputable def bbh : TR := .ret (.slice (K.of 260) 0 2 2 none)
noncomputable def a38 : TM := .mk 44 aqk 260 aqj ([.mk false (.app 221 (.g (.s 5) .nil)) (.c 1) true, .mk true (.v 1) (.c 37) false, .mk true (.c 61) (.v 1) false] ++ [.mk true (.v 1) (.c 39) false, .mk false (.v 1) (.c 45) false, .mk false (.v 1) (.c 54) false]) none bbh 300 bbg
noncomputable def bbi : List HO := [hH 256 (.s 5), bx 257 111 [.gv (.sl (K.of 258) 6 (.c 62) []), .map (K.of 259)], .mk 258 (.gob (.junk 171)), .mk 259 (.gob (.gmap (.s 4))), bx 260 3 [sX (.v 1), sX (.c 44), sX (.c 37)]]
noncomputable def bbj : TR := .ret (.slice (K.of 260) 0 3 3 none)
noncomputable def a39 : TM := .mk 44 aqk 260 aqj ([.mk false (.app 221 (.g (.s 5) .nil)) (.c 1) true, .mk true (.v 1) (.c 37) false, .mk true (.c 61) (.v 1) false] ++ [.mk false (.v 1) (.c 45) true]) none bbj 300 bbi
noncomputable def bbk : List HO := [hH 256 (.s 5), bx 257 111 [.gv (.sl (K.of 258) 6 (.c 62) []), .map (K.of 259)], .mk 258 (.gob (.junk 171)), .mk 259 (.gob (.gmap (.s 4))), bx 260 3 [sX (.v 1), sX (.c 60), sX (.c 37)]]
noncomputable def bbl : TR := .ret (.slice (K.of 260) 0 3 3 none)
noncomputable def a4a : TM := .mk 44 aqk 260 aqj ([.mk false (.app 221 (.g (.s 5) .nil)) (.c 1) true, .mk true (.v 1) (.c 37) false, .mk true (.c 61) (.v 1) false] ++ [.mk false (.v 1) (.c 54) true]) none bbl 300 bbk
noncomputable def bns : List AV := [hpp, .ptr (K.of 257) 0, .agg [vI 2, vI 1], .bool true]
noncomputable def bnp : List HO := [hH 256 (.s 5), bx 257 111 [.gv (.sl (K.of 258) 6 (.c 62) []), .map (K.of 259)], .mk 258 (.gob (.junk 171)), .mk 259 (.gob (.gmap (.s 4)))]
noncomputable def bnq : List HO := [hH 256 (.s 5), bx 257 111 [.gv (.sl (K.of 258) 6 (.c 62) []), .map (K.of 259)], .mk 258 (.gob (.junk 171)), .mk 259 (.gob (.gmap (.s 4)))]
noncomputable def bnr : TR := .ret (.tuple [.gv (.str (.app 121 (.i (.v 1) .nil)) []), .int .i64 0])
noncomputable def bno : TM := .mk 16 bns 260 bnp ([.mk false (.app 221 (.g (.s 5) .nil)) (.c 1) true, .mk false (.v 2) (.c 0) true, .mk true (.v 1) (.c (-9223372036854775808)) false, .mk true (.c 9223372036854775807) (.v 1) false] ++ []) none bnr 300 bnq
end
theorem ev6 : (∀ (σ : Nat → List Int) (k : IntKind) (a b : SE), (SE.bin 3 k a b).eval σ = k.wrap ((a.eval σ).tdiv (b.eval σ))) ∧ (∀ (σ : Nat → List Int) (k : IntKind) (a b : SE), (SE.bin 5 k a b).eval σ = (a.eval σ).emod (b.eval σ)) ∧ (∀ x : Int, x * 0 = 0) ∧ (∀ x : Int, x - 0 = x) ∧ (-(0 : Int) = 0) := ⟨by intros; rfl, by intros; rfl, Int.mul_zero, Int.sub_zero, rfl⟩
theorem ao : ∀ n : Int, azq (ja n) = 1 := fun n => ascN1.2 (a26 n)
theorem av : ∀ n : Int, azq (gc n) = 1 := fun n => ascN1.2 (a1d n)
theorem a29 (f : Nat) (n : Int) : 1 ≤ ((rr (f + 1) n).length : Int) := by
 unfold rr
 split
 ·show (1 : Int) ≤ ((1 : Nat) : Int); omega
 ·rw [zP]; show (1 : Int) ≤ (((rr f (n / 10)).length + 1 : Nat) : Int); omega
theorem a27 (n : Int) : 1 ≤ ((ja n).length : Int) := by
 unfold ja
 split
 ·show (1 : Int) ≤ (((rr 20 (-n)).length + 1 : Nat) : Int); omega
 ·exact a29 19 n
theorem acv {σ : Nat → List Int} (n : SE) : 1 ≤ (SE.len (.app 121 (.i n .nil))).eval σ ∧ (SE.len (.app 121 (.i n .nil))).eval σ ≤ 21 := ⟨a27 (n.eval σ), alp (n.eval σ)⟩
theorem nh {σ : Nat → List Int} (n : SE) : (SE.len (.app 224 (.i n .nil))).eval σ ≤ 60 := bf (n.eval σ)
theorem tq (x : Int) : x = 10 * x.tdiv 10 + x.tmod 10 ∧ (0 ≤ x → 0 ≤ x.tdiv 10 ∧ 0 ≤ x.tmod 10) ∧ (x < 0 → x.tdiv 10 ≤ 0 ∧ x.tmod 10 ≤ 0) ∧ -10 < x.tmod 10 ∧ x.tmod 10 < 10 := by
 have h := Int.mul_tdiv_add_tmod x 10
 by_cases hx : 0 ≤ x
 ·rw [Int.tdiv_eq_ediv_of_nonneg hx, Int.tmod_eq_emod_of_nonneg hx] at *
  omega
 ·obtain ⟨y, rfl⟩ : ∃ y, x = -y := ⟨-x, by omega⟩
  rw [Int.neg_tdiv, Int.neg_tmod, Int.tdiv_eq_ediv_of_nonneg (by omega), Int.tmod_eq_emod_of_nonneg (by omega)] at *
  omega
theorem bdf {σ : Nat → List Int} (a b : SE) (h0 : 0 ≤ a.eval σ) (h1 : a.eval σ < 10) (hb : b.eval σ = a.eval σ + 1) : (GE.cut (.lit 10 227581098929683594426425) a b).eval σ = [48 + a.eval σ] := by
 show (((GE.lit 10 227581098929683594426425).eval σ).take (b.eval σ).toNat).drop (a.eval σ).toNat = _
 rw [hb]
 have e : (GE.lit 10 227581098929683594426425).eval σ = [48, 49, 50, 51, 52, 53, 54, 55, 56, 57] := rfl
 rw [e]
 generalize a.eval σ = x at h0 h1
 have : x = 0 ∨ x = 1 ∨ x = 2 ∨ x = 3 ∨ x = 4 ∨ x = 5 ∨ x = 6 ∨ x = 7 ∨ x = 8 ∨ x = 9 := by omega
 rcases this with rfl | rfl | rfl | rfl | rfl | rfl | rfl | rfl | rfl | rfl <;> rfl
theorem bh8 {σ : Nat → List Int} (a b : SE) (h0 : 0 ≤ a.eval σ) (h1 : a.eval σ < 10) (hb : b.eval σ = a.eval σ + 1) : (((GE.cut (.lit 10 227581098929683594426425) a b).eval σ).length : Int) = 1 := by
 rw [bdf a b h0 h1 hb]; rfl
section
variable {σ : Nat → List Int}
theorem a22 (h : SAll σ [.mk true (.v 1) (.c 0) false, .mk true (.c 9223372036854775807) (.v 1) false]) : 0 ≤ (σ 1).headD 0 ∧ (σ 1).headD 0 ≤ 9223372036854775807 := by
 simp only [sall_cons, sF, evs] at h
 exact ⟨h.1, h.2.1⟩
theorem a2z (h0 : 0 ≤ (σ 1).headD 0) (h1 : (σ 1).headD 0 < 10) : (GE.cut (.lit 10 227581098929683594426425) (.v 1) (.bin 0 .i64 (.v 1) (.c 1))).eval σ = (GE.app 121 (.i (.v 1) .nil)).eval σ := by
 have c := bdf (σ := σ) (.v 1) (.bin 0 .i64 (.v 1) (.c 1)) h0 h1 (by simp (disch := omega) only [evs, wr])
 rw [c]
 exact (a25 h0 h1).symm
theorem a21 (h0 : 10 ≤ (σ 1).headD 0) (h1 : (σ 1).headD 0 ≤ 9223372036854775807) : (GE.cat (.app 121 (.i (.bin 3 .i64 (.v 1) (.c 10)) .nil)) (.cut (.lit 10 227581098929683594426425) (.bin 4 .i64 (.v 1) (.c 10)) (.bin 0 .i64 (.bin 4 .i64 (.v 1) (.c 10)) (.c 1)))).eval σ = (GE.app 121 (.i (.v 1) .nil)).eval σ := by
 obtain ⟨q1, q2, q3, q4, q5⟩ := tq ((σ 1).headD 0)
 have c : (GE.cut (.lit 10 227581098929683594426425) (.bin 4 .i64 (.v 1) (.c 10)) (.bin 0 .i64 (.bin 4 .i64 (.v 1) (.c 10)) (.c 1))).eval σ = [48 + (σ 1).headD 0 % 10] := by
  rw [bdf _ _ (by simp only [evs]; omega) (by simp only [evs]; omega) (by simp (disch := omega) only [evs, wr])]
  simp only [evs]
  rw [Int.tmod_eq_emod_of_nonneg (by omega)]
 have d : (GE.app 121 (.i (.bin 3 .i64 (.v 1) (.c 10)) .nil)).eval σ = ja ((σ 1).headD 0 / 10) := by
  simp (disch := omega) only [evq, evs, ev6, wr]
  rw [Int.tdiv_eq_ediv_of_nonneg (by omega)]
 show (GE.app 121 _).eval σ ++ (GE.cut _ _ _).eval σ = ja ((σ 1).headD 0)
 rw [c, d, ← avy h0 (by omega)]
theorem a23 (h0 : (σ 1).headD 0 < 0) (h1 : -9223372036854775808 ≤ (σ 1).headD 0) : (GE.cat (.lit 1 45) (.app 121 (.i (.bin 0 .i64 (.bin 1 .i64 (.c 0) (.bin 0 .i64 (.v 1) (.c 1))) (.c 1)) .nil))).eval σ = (GE.app 121 (.i (.v 1) .nil)).eval σ ∨ (σ 1).headD 0 = -9223372036854775808 := by
 by_cases h2 : (σ 1).headD 0 = -9223372036854775808
 ·exact .inr h2
 refine .inl ?_
 have d : (GE.app 121 (.i (.bin 0 .i64 (.bin 1 .i64 (.c 0) (.bin 0 .i64 (.v 1) (.c 1))) (.c 1)) .nil)).eval σ = ja (-(σ 1).headD 0) := by
  simp (disch := omega) only [evq, evs, wr]
  congr 1; omega
 show (GE.lit 1 45).eval σ ++ (GE.app 121 _).eval σ = ja ((σ 1).headD 0)
 rw [d, apg h0]; rfl
theorem a24 (h0 : (σ 1).headD 0 ≤ -10) (h1 : -9223372036854775808 ≤ (σ 1).headD 0) : (GE.cat (.cat (.lit 1 45) (.app 121 (.i (.bin 1 .i64 (.c 0) (.bin 3 .i64 (.v 1) (.c 10))) .nil))) (.app 121 (.i (.bin 1 .i64 (.c 0) (.bin 4 .i64 (.v 1) (.c 10))) .nil))).eval σ = (GE.app 121 (.i (.v 1) .nil)).eval σ := by
 obtain ⟨q1, q2, q3, q4, q5⟩ := tq ((σ 1).headD 0)
 have c : (GE.app 121 (.i (.bin 1 .i64 (.c 0) (.bin 3 .i64 (.v 1) (.c 10))) .nil)).eval σ = ja (-(σ 1).headD 0 / 10) := by
  simp (disch := omega) only [evq, evs, ev6, wr]
  congr 1; omega
 have d : (GE.app 121 (.i (.bin 1 .i64 (.c 0) (.bin 4 .i64 (.v 1) (.c 10))) .nil)).eval σ = [48 + -(σ 1).headD 0 % 10] := by
  simp (disch := omega) only [evq, evs, ev6, wr]
  rw [a25 (by omega) (by omega)]
  congr 1; omega
 show ((GE.lit 1 45).eval σ ++ (GE.app 121 _).eval σ) ++ (GE.app 121 _).eval σ = ja ((σ 1).headD 0)
 rw [c, d, apg (n := (σ 1).headD 0) (by omega), avy (n := -(σ 1).headD 0) (by omega) (by omega), List.append_assoc]; rfl
theorem ba5 (h : SAll σ [.mk true (.v 1) (.c 37) false, .mk true (.c 61) (.v 1) false]) : 37 ≤ (σ 1).headD 0 ∧ (σ 1).headD 0 ≤ 61 := by
 simp only [sall_cons, sF, evs] at h
 exact ⟨h.1, h.2.1⟩
theorem bbm (h : SAll σ [.mk false (.app 221 (.g (.s 5) .nil)) (.c 1) true, .mk true (.v 1) (.c 37) false, .mk true (.c 61) (.v 1) false]) : km (σ 5) ∧ 37 ≤ (σ 1).headD 0 ∧ (σ 1).headD 0 ≤ 61 := by
 obtain ⟨h1, h⟩ := sall_cons.1 h
 exact ⟨s221.1 (sE.1 h1), ba5 h⟩
theorem bnn (h : SAll σ [.mk false (.app 221 (.g (.s 5) .nil)) (.c 1) true, .mk false (.v 2) (.c 0) true, .mk true (.v 1) (.c (-9223372036854775808)) false, .mk true (.c 9223372036854775807) (.v 1) false]) : km (σ 5) ∧ (σ 2).headD 0 = 0 ∧ -9223372036854775808 ≤ (σ 1).headD 0 ∧ (σ 1).headD 0 ≤ 9223372036854775807 := by
 obtain ⟨h1, h⟩ := sall_cons.1 h
 simp only [sall_cons, sE, sF, evs] at h
 exact ⟨s221.1 (sE.1 h1), h.1, h.2.1, h.2.2.1⟩
end
theorem hrl [Gv] : ∀ t ∈ [bgk, bfu], bo t := by
 intro t ht
 simp only [List.mem_cons, zH, or_false] at ht
 rcases ht with rfl | rfl
 ·exact a6q
 ·exact a5x
def bp2 [Gv] : Prop := (SAll Gv.σ [] → br 68 bna 256 bm7 bm9 260 bm8)
theorem bi7 [Gv] (hI : SAll Gv.σ [.mk true (.c 20000) (.len (.s 3)) false, .mk false (.app 228 (.g (.s 3) .nil)) (.c 1) true]) : bp2 := by
 obtain ⟨l1, l2⟩ := a1w hI
 have l2 := ascN1.2 l2
 exact fun hC => ak (n := 2000) (T := []) (E := .nil) (cv (ka hI SAll.nil) _ hrl) al (ka hI SAll.nil) trivial rfl rfl (by kernel_rfl)
theorem bfy [Gv] : bo bm6 := fun σ _ hA _ => (@bi7 ⟨σ⟩  (cm hA).1) (cm hA).2
def bdh [Gv] : Prop := (SAll Gv.σ [] → br 86 bdl 256 bdi bdk 256 bdj)
theorem bim [Gv] (hh : ∀ t ∈ [dgr mV1], bo t) (hI : SAll Gv.σ [.mk true (.v 1) (.c 0) false, .mk true (.c 9223372036854775807) (.v 1) false]) : bdh := by
 obtain ⟨l1, l2⟩ := a22 hI
 obtain ⟨q1, q2, q3, q4, q5⟩ := tq ((Gv.σ 1).headD 0)
 rcases gl (.v 1) (.c 10) with ⟨h1, k1⟩ | ⟨h1, k1⟩ <;> (try simp (disch := omega) only [evs, wr, zP, zO, zS, zJ, zD, evq, ev6, ao, av] at k1)
 ·have h2 := bF (.bin 0 .i64 (.v 1) (.c 1)) (.v 1) (by simp (disch := omega) only [evs, wr, zP, zO, zS, zJ, zD, evq, ev6, ao, av] <;> omega)
  have h3 := bF (.c 10) (.bin 0 .i64 (.v 1) (.c 1)) (by simp (disch := omega) only [evs, wr, zP, zO, zS, zJ, zD, evq, ev6, ao, av] <;> omega)
  have t1 := bh8 (σ := Gv.σ) (.v 1) (.bin 0 .i64 (.v 1) (.c 1)) (by simp only [evs]; omega) (by simp only [evs]; omega) (by simp (disch := omega) only [evs, wr])
  try simp (disch := omega) only [evs, wr, zP, zO, zS, zJ, zD, evq, ev6, ao, av] at t1
  have t2 := acv (σ := Gv.σ) (.v 1)
  try simp (disch := omega) only [evs, wr, zP, zO, zS, zJ, zD, evq, ev6, ao, av] at t2
  exact fun hC => ak (n := 2000) (T := []) (E := (.g (.cut (.lit 10 227581098929683594426425) (.v 1) (.bin 0 .i64 (.v 1) (.c 1))) (.app 121 (.i (.v 1) .nil)) .nil)) (cv (ka hI (sc h1 (sc h2 (sc h3 SAll.nil)))) _ hh) al (ka hI (sc h1 (sc h2 (sc h3 SAll.nil)))) (by first | exact ⟨a2z (by omega) (by omega), trivial⟩ | exact ⟨a21 (by omega) (by omega), trivial⟩) rfl rfl (by kernel_rfl)
 ·have h2 := bF (.bin 3 .i64 (.v 1) (.c 10)) (.c 0) (by simp (disch := omega) only [evs, wr, zP, zO, zS, zJ, zD, evq, ev6, ao, av] <;> omega)
  have h3 := bF (.c 9223372036854775807) (.bin 3 .i64 (.v 1) (.c 10)) (by simp (disch := omega) only [evs, wr, zP, zO, zS, zJ, zD, evq, ev6, ao, av] <;> omega)
  have h4 := bT (.bin 3 .i64 (.v 1) (.c 10)) (.v 1) (by simp (disch := omega) only [evs, wr, zP, zO, zS, zJ, zD, evq, ev6, ao, av] <;> omega)
  have h5 := bF (.bin 4 .i64 (.v 1) (.c 10)) (.c 0) (by simp (disch := omega) only [evs, wr, zP, zO, zS, zJ, zD, evq, ev6, ao, av] <;> omega)
  have h6 := bF (.bin 0 .i64 (.bin 4 .i64 (.v 1) (.c 10)) (.c 1)) (.bin 4 .i64 (.v 1) (.c 10)) (by simp (disch := omega) only [evs, wr, zP, zO, zS, zJ, zD, evq, ev6, ao, av] <;> omega)
  have h7 := bF (.c 10) (.bin 0 .i64 (.bin 4 .i64 (.v 1) (.c 10)) (.c 1)) (by simp (disch := omega) only [evs, wr, zP, zO, zS, zJ, zD, evq, ev6, ao, av] <;> omega)
  have t3 := acv (σ := Gv.σ) (.bin 3 .i64 (.v 1) (.c 10))
  try simp (disch := omega) only [evs, wr, zP, zO, zS, zJ, zD, evq, ev6, ao, av] at t3
  have t4 := bh8 (σ := Gv.σ) (.bin 4 .i64 (.v 1) (.c 10)) (.bin 0 .i64 (.bin 4 .i64 (.v 1) (.c 10)) (.c 1)) (by simp only [evs]; omega) (by simp only [evs]; omega) (by simp (disch := omega) only [evs, wr])
  try simp (disch := omega) only [evs, wr, zP, zO, zS, zJ, zD, evq, ev6, ao, av] at t4
  have h8 := bF (.c 9223372036854775807) (.bin 6 .i64 (.len (.app 121 (.i (.bin 3 .i64 (.v 1) (.c 10)) .nil))) (.len (.cut (.lit 10 227581098929683594426425) (.bin 4 .i64 (.v 1) (.c 10)) (.bin 0 .i64 (.bin 4 .i64 (.v 1) (.c 10)) (.c 1))))) (by simp (disch := omega) only [evs, wr, zP, zO, zS, zJ, zD, evq, ev6, ao, av] <;> omega)
  have t5 := acv (σ := Gv.σ) (.v 1)
  try simp (disch := omega) only [evs, wr, zP, zO, zS, zJ, zD, evq, ev6, ao, av] at t5
  exact fun hC => ak (n := 2000) (T := []) (E := (.g (.cat (.app 121 (.i (.bin 3 .i64 (.v 1) (.c 10)) .nil)) (.cut (.lit 10 227581098929683594426425) (.bin 4 .i64 (.v 1) (.c 10)) (.bin 0 .i64 (.bin 4 .i64 (.v 1) (.c 10)) (.c 1)))) (.app 121 (.i (.v 1) .nil)) .nil)) (cv (ka hI (sc h1 (sc h2 (sc h3 (sc h4 (sc h5 (sc h6 (sc h7 (sc h8 SAll.nil))))))))) _ hh) al (ka hI (sc h1 (sc h2 (sc h3 (sc h4 (sc h5 (sc h6 (sc h7 (sc h8 SAll.nil))))))))) (by first | exact ⟨a2z (by omega) (by omega), trivial⟩ | exact ⟨a21 (by omega) (by omega), trivial⟩) rfl rfl (by kernel_rfl)
theorem avx : ∀ (B : Nat) (σ : Nat → List Int), SAll σ [.mk true (.v 1) (.c 0) false, .mk true (.c 9223372036854775807) (.v 1) false] → (mV1).eval σ < (B : Int) → @bdh ⟨σ⟩
 | 0, σ, hI, hb => by obtain ⟨l1, l2⟩ := a22 hI; simp only [mV1, evs] at hb; omega
 | B + 1, σ, hI, hb => by
   have ih : ∀ σ' : Nat → List Int, SAll σ' [.mk true (.v 1) (.c 0) false, .mk true (.c 9223372036854775807) (.v 1) false] → 0 ≤ (mV1).eval σ' ∧ (mV1).eval σ' < (mV1).eval σ → @bdh ⟨σ'⟩ := fun σ' h h' => avx B σ' h (by omega)
   have hh : ∀ t ∈ [dgr (mV1)], @bo ⟨σ⟩ t := by
    intro t ht
    simp only [List.mem_cons, zH, or_false] at ht
    rcases ht with rfl
    ·exact fun σ' _ hA hb => (ih σ' (cm hA).1 hb) (cm hA).2
   exact @bim ⟨σ⟩ hh hI
theorem bdm [Gv] : bo bh9 := fun σ _ hA _ => (avx (((mV1).eval σ).toNat + 1) σ (cm hA).1 (by omega)) (cm hA).2
theorem bds [Gv] : ∀ t ∈ [bh9], bo t := na bdm
def bov [Gv] : Prop := (SAll Gv.σ [] → br 40 bie 256 bib bid 256 bic)
theorem bio [Gv] (hI : SAll Gv.σ [.mk true (.v 1) (.c (-9223372036854775808)) false, .mk true (.c 9223372036854775807) (.v 1) false]) : bov := by
 obtain ⟨l1, l2⟩ := bbd hI
 obtain ⟨q1, q2, q3, q4, q5⟩ := tq ((Gv.σ 1).headD 0)
 rcases gl (.v 1) (.c 0) with ⟨h1, k1⟩ | ⟨h1, k1⟩ <;> (try simp (disch := omega) only [evs, wr, zP, zO, zS, zJ, zD, evq, ev6, ao, av] at k1)
 ·rcases gl (.bin 1 .i64 (.c 0) (.bin 0 .i64 (.v 1) (.c 1))) (.c 9) with ⟨h2, k2⟩ | ⟨h2, k2⟩ <;> (try simp (disch := omega) only [evs, wr, zP, zO, zS, zJ, zD, evq, ev6, ao, av] at k2)
  ·have h3 := bF (.bin 0 .i64 (.bin 1 .i64 (.c 0) (.bin 0 .i64 (.v 1) (.c 1))) (.c 1)) (.c 0) (by simp (disch := omega) only [evs, wr, zP, zO, zS, zJ, zD, evq, ev6, ao, av] <;> omega)
   have h4 := bF (.c 9223372036854775807) (.bin 0 .i64 (.bin 1 .i64 (.c 0) (.bin 0 .i64 (.v 1) (.c 1))) (.c 1)) (by simp (disch := omega) only [evs, wr, zP, zO, zS, zJ, zD, evq, ev6, ao, av] <;> omega)
   have t1 := acv (σ := Gv.σ) (.bin 0 .i64 (.bin 1 .i64 (.c 0) (.bin 0 .i64 (.v 1) (.c 1))) (.c 1))
   try simp (disch := omega) only [evs, wr, zP, zO, zS, zJ, zD, evq, ev6, ao, av] at t1
   have h5 := bF (.c 9223372036854775807) (.bin 6 .i64 (.c 1) (.len (.app 121 (.i (.bin 0 .i64 (.bin 1 .i64 (.c 0) (.bin 0 .i64 (.v 1) (.c 1))) (.c 1)) .nil)))) (by simp (disch := omega) only [evs, wr, zP, zO, zS, zJ, zD, evq, ev6, ao, av] <;> omega)
   have t2 := acv (σ := Gv.σ) (.v 1)
   try simp (disch := omega) only [evs, wr, zP, zO, zS, zJ, zD, evq, ev6, ao, av] at t2
   exact fun hC => ak (n := 2000) (T := []) (E := (.g (.cat (.lit 1 45) (.app 121 (.i (.bin 0 .i64 (.bin 1 .i64 (.c 0) (.bin 0 .i64 (.v 1) (.c 1))) (.c 1)) .nil))) (.app 121 (.i (.v 1) .nil)) .nil)) (cv (ka hI (sc h1 (sc h2 (sc h3 (sc h4 (sc h5 SAll.nil)))))) _ bds) al (ka hI (sc h1 (sc h2 (sc h3 (sc h4 (sc h5 SAll.nil)))))) (by first | exact ⟨(a23 (by omega) (by omega)).resolve_right (by omega), trivial⟩ | exact ⟨a24 (by omega) (by omega), trivial⟩) rfl rfl (by kernel_rfl)
  ·have h3 := bF (.bin 1 .i64 (.c 0) (.bin 3 .i64 (.v 1) (.c 10))) (.c 0) (by simp (disch := omega) only [evs, wr, zP, zO, zS, zJ, zD, evq, ev6, ao, av] <;> omega)
   have h4 := bF (.c 9223372036854775807) (.bin 1 .i64 (.c 0) (.bin 3 .i64 (.v 1) (.c 10))) (by simp (disch := omega) only [evs, wr, zP, zO, zS, zJ, zD, evq, ev6, ao, av] <;> omega)
   have t3 := acv (σ := Gv.σ) (.bin 1 .i64 (.c 0) (.bin 3 .i64 (.v 1) (.c 10)))
   try simp (disch := omega) only [evs, wr, zP, zO, zS, zJ, zD, evq, ev6, ao, av] at t3
   have h5 := bF (.c 9223372036854775807) (.bin 6 .i64 (.c 1) (.len (.app 121 (.i (.bin 1 .i64 (.c 0) (.bin 3 .i64 (.v 1) (.c 10))) .nil)))) (by simp (disch := omega) only [evs, wr, zP, zO, zS, zJ, zD, evq, ev6, ao, av] <;> omega)
   have h6 := bF (.bin 1 .i64 (.c 0) (.bin 4 .i64 (.v 1) (.c 10))) (.c 0) (by simp (disch := omega) only [evs, wr, zP, zO, zS, zJ, zD, evq, ev6, ao, av] <;> omega)
   have h7 := bF (.c 9223372036854775807) (.bin 1 .i64 (.c 0) (.bin 4 .i64 (.v 1) (.c 10))) (by simp (disch := omega) only [evs, wr, zP, zO, zS, zJ, zD, evq, ev6, ao, av] <;> omega)
   have t4 := acv (σ := Gv.σ) (.bin 1 .i64 (.c 0) (.bin 4 .i64 (.v 1) (.c 10)))
   try simp (disch := omega) only [evs, wr, zP, zO, zS, zJ, zD, evq, ev6, ao, av] at t4
   have h8 := bF (.c 9223372036854775807) (.bin 6 .i64 (.bin 6 .i64 (.c 1) (.len (.app 121 (.i (.bin 1 .i64 (.c 0) (.bin 3 .i64 (.v 1) (.c 10))) .nil)))) (.len (.app 121 (.i (.bin 1 .i64 (.c 0) (.bin 4 .i64 (.v 1) (.c 10))) .nil)))) (by simp (disch := omega) only [evs, wr, zP, zO, zS, zJ, zD, evq, ev6, ao, av] <;> omega)
   have t5 := acv (σ := Gv.σ) (.v 1)
   try simp (disch := omega) only [evs, wr, zP, zO, zS, zJ, zD, evq, ev6, ao, av] at t5
   exact fun hC => ak (n := 2000) (T := []) (E := (.g (.cat (.cat (.lit 1 45) (.app 121 (.i (.bin 1 .i64 (.c 0) (.bin 3 .i64 (.v 1) (.c 10))) .nil))) (.app 121 (.i (.bin 1 .i64 (.c 0) (.bin 4 .i64 (.v 1) (.c 10))) .nil))) (.app 121 (.i (.v 1) .nil)) .nil)) (cv (ka hI (sc h1 (sc h2 (sc h3 (sc h4 (sc h5 (sc h6 (sc h7 (sc h8 SAll.nil))))))))) _ bds) al (ka hI (sc h1 (sc h2 (sc h3 (sc h4 (sc h5 (sc h6 (sc h7 (sc h8 SAll.nil))))))))) (by first | exact ⟨(a23 (by omega) (by omega)).resolve_right (by omega), trivial⟩ | exact ⟨a24 (by omega) (by omega), trivial⟩) rfl rfl (by kernel_rfl)
 ·exact fun hC => ak (n := 2000) (T := []) (E := .nil) (cv (ka hI (sc h1 SAll.nil)) _ bds) al (ka hI (sc h1 SAll.nil)) trivial rfl rfl (by kernel_rfl)
theorem bdn [Gv] : bo bia := fun σ _ hA _ => (@bio ⟨σ⟩  (cm hA).1) (cm hA).2
theorem hkn [Gv] : ∀ t ∈ [a0f], bo t := na abo
def bpc [Gv] : Prop := (SAll Gv.σ [.mk true (.v 1) (.c 39) true] → br 44 aqk 260 aqj bbf 300 bbe) ∧ (SAll Gv.σ [.mk true (.v 1) (.c 39) false, .mk false (.v 1) (.c 45) false, .mk false (.v 1) (.c 54) false] → br 44 aqk 260 aqj bbh 300 bbg) ∧ (SAll Gv.σ [.mk false (.v 1) (.c 45) true] → br 44 aqk 260 aqj bbj 300 bbi) ∧ (SAll Gv.σ [.mk false (.v 1) (.c 54) true] → br 44 aqk 260 aqj bbl 300 bbk)
theorem av2 [Gv] (hI : SAll Gv.σ [.mk false (.app 221 (.g (.s 5) .nil)) (.c 1) true, .mk true (.v 1) (.c 37) false, .mk true (.c 61) (.v 1) false]) : bpc := by
 obtain ⟨hP, l1, l2⟩ := bbm hI
 obtain ⟨p1, p2, p3, p4⟩ := oz hP
 have h1 := bN (.rd (.s 5) (.c 0)) (.c 0) (by simp (disch := omega) only [evs, wr, zP, zO, zS, zJ, zD, evq, ev6, ao, av] <;> omega)
 rcases gq (.v 1) (.c 38) with ⟨h2, k2⟩ | ⟨h2, k2⟩ <;> (try simp (disch := omega) only [evs, wr, zP, zO, zS, zJ, zD, evq, ev6, ao, av] at k2)
 ·have u := l1
  exact ⟨fun hC => ak (n := 2000) (T := [(261, 260)]) (E := (.i (.c 38) (.v 1) .nil)) (cv (ka hI (sc h1 (sc h2 SAll.nil))) _ hkn) al (ka hI (sc h1 (sc h2 SAll.nil))) (by simp (disch := omega) only [EqL.all, and_true, evs, wr, zP, zO, zS, zJ, zD, evq, ev6, ao, av, u] <;> omega) rfl rfl (by kernel_rfl),
   by intro h; simp (disch := omega) only [sall_cons, sT, sF, sE, sN, evs, wr, zP, zO, zS, zJ, zD, evq, ev6, ao, av, u] at h <;> omega,
   by intro h; simp (disch := omega) only [sall_cons, sT, sF, sE, sN, evs, wr, zP, zO, zS, zJ, zD, evq, ev6, ao, av, u] at h <;> omega,
   by intro h; simp (disch := omega) only [sall_cons, sT, sF, sE, sN, evs, wr, zP, zO, zS, zJ, zD, evq, ev6, ao, av, u] at h <;> omega⟩
 ·rcases gq (.v 1) (.c 37) with ⟨h3, k3⟩ | ⟨h3, k3⟩ <;> (try simp (disch := omega) only [evs, wr, zP, zO, zS, zJ, zD, evq, ev6, ao, av] at k3)
  ·have u := l1
   exact ⟨fun hC => ak (n := 2000) (T := [(261, 260)]) (E := (.i (.c 37) (.v 1) .nil)) (cv (ka hI (sc h1 (sc h2 (sc h3 SAll.nil)))) _ hkn) al (ka hI (sc h1 (sc h2 (sc h3 SAll.nil)))) (by simp (disch := omega) only [EqL.all, and_true, evs, wr, zP, zO, zS, zJ, zD, evq, ev6, ao, av, u] <;> omega) rfl rfl (by kernel_rfl),
    by intro h; simp (disch := omega) only [sall_cons, sT, sF, sE, sN, evs, wr, zP, zO, zS, zJ, zD, evq, ev6, ao, av, u] at h <;> omega,
    by intro h; simp (disch := omega) only [sall_cons, sT, sF, sE, sN, evs, wr, zP, zO, zS, zJ, zD, evq, ev6, ao, av, u] at h <;> omega,
    by intro h; simp (disch := omega) only [sall_cons, sT, sF, sE, sN, evs, wr, zP, zO, zS, zJ, zD, evq, ev6, ao, av, u] at h <;> omega⟩
  ·rcases gq (.v 1) (.c 45) with ⟨h4, k4⟩ | ⟨h4, k4⟩ <;> (try simp (disch := omega) only [evs, wr, zP, zO, zS, zJ, zD, evq, ev6, ao, av] at k4)
   ·have u := l1
    exact ⟨by intro h; simp (disch := omega) only [sall_cons, sT, sF, sE, sN, evs, wr, zP, zO, zS, zJ, zD, evq, ev6, ao, av, u] at h <;> omega,
     by intro h; simp (disch := omega) only [sall_cons, sT, sF, sE, sN, evs, wr, zP, zO, zS, zJ, zD, evq, ev6, ao, av, u] at h <;> omega,
     fun hC => ak (n := 2000) (T := [(261, 260)]) (E := (.i (.c 45) (.v 1) .nil)) (cv (ka hI (sc h1 (sc h2 (sc h3 (sc h4 SAll.nil))))) _ hkn) al (ka hI (sc h1 (sc h2 (sc h3 (sc h4 SAll.nil))))) (by simp (disch := omega) only [EqL.all, and_true, evs, wr, zP, zO, zS, zJ, zD, evq, ev6, ao, av, u] <;> omega) rfl rfl (by kernel_rfl),
     by intro h; simp (disch := omega) only [sall_cons, sT, sF, sE, sN, evs, wr, zP, zO, zS, zJ, zD, evq, ev6, ao, av, u] at h <;> omega⟩
   ·rcases gq (.v 1) (.c 54) with ⟨h5, k5⟩ | ⟨h5, k5⟩ <;> (try simp (disch := omega) only [evs, wr, zP, zO, zS, zJ, zD, evq, ev6, ao, av] at k5)
    ·have u := l1
     exact ⟨by intro h; simp (disch := omega) only [sall_cons, sT, sF, sE, sN, evs, wr, zP, zO, zS, zJ, zD, evq, ev6, ao, av, u] at h <;> omega,
      by intro h; simp (disch := omega) only [sall_cons, sT, sF, sE, sN, evs, wr, zP, zO, zS, zJ, zD, evq, ev6, ao, av, u] at h <;> omega,
      by intro h; simp (disch := omega) only [sall_cons, sT, sF, sE, sN, evs, wr, zP, zO, zS, zJ, zD, evq, ev6, ao, av, u] at h <;> omega,
      fun hC => ak (n := 2000) (T := [(261, 260)]) (E := (.i (.c 54) (.v 1) .nil)) (cv (ka hI (sc h1 (sc h2 (sc h3 (sc h4 (sc h5 SAll.nil)))))) _ hkn) al (ka hI (sc h1 (sc h2 (sc h3 (sc h4 (sc h5 SAll.nil)))))) (by simp (disch := omega) only [EqL.all, and_true, evs, wr, zP, zO, zS, zJ, zD, evq, ev6, ao, av, u] <;> omega) rfl rfl (by kernel_rfl)⟩
    ·have h6 := bT (.c 38) (.v 1) (by simp (disch := omega) only [evs, wr, zP, zO, zS, zJ, zD, evq, ev6, ao, av] <;> omega)
     have h7 := bT (.v 1) (.c 62) (by simp (disch := omega) only [evs, wr, zP, zO, zS, zJ, zD, evq, ev6, ao, av] <;> omega)
     have u := l1
     exact ⟨by intro h; simp (disch := omega) only [sall_cons, sT, sF, sE, sN, evs, wr, zP, zO, zS, zJ, zD, evq, ev6, ao, av, u] at h <;> omega,
      fun hC => ak (n := 2000) (T := [(261, 260)]) (E := .nil) (cv (ka hI (sc h1 (sc h2 (sc h3 (sc h4 (sc h5 (sc h6 (sc h7 SAll.nil)))))))) _ hkn) al (ka hI (sc h1 (sc h2 (sc h3 (sc h4 (sc h5 (sc h6 (sc h7 SAll.nil)))))))) trivial rfl rfl (by kernel_rfl),
      by intro h; simp (disch := omega) only [sall_cons, sT, sF, sE, sN, evs, wr, zP, zO, zS, zJ, zD, evq, ev6, ao, av, u] at h <;> omega,
      by intro h; simp (disch := omega) only [sall_cons, sT, sF, sE, sN, evs, wr, zP, zO, zS, zJ, zD, evq, ev6, ao, av, u] at h <;> omega⟩
theorem awf [Gv] : bo a36 := fun σ _ hA _ => (@av2 ⟨σ⟩  (cm hA).1).1 (cm hA).2
theorem awg [Gv] : bo a38 := fun σ _ hA _ => (@av2 ⟨σ⟩  (cm hA).1).2.1 (cm hA).2
theorem awh [Gv] : bo a39 := fun σ _ hA _ => (@av2 ⟨σ⟩  (cm hA).1).2.2.1 (cm hA).2
theorem awi [Gv] : bo a4a := fun σ _ hA _ => (@av2 ⟨σ⟩  (cm hA).1).2.2.2 (cm hA).2
theorem hsh [Gv] : ∀ t ∈ [bkz, a0f, bj1, bfu, bgk], bo t := by
 intro t ht
 simp only [List.mem_cons, zH, or_false] at ht
 rcases ht with rfl | rfl | rfl | rfl | rfl
 ·exact a9k
 ·exact abo
 ·exact bdz
 ·exact a5x
 ·exact a6q
def bp5 [Gv] : Prop := (SAll Gv.σ [] → br 16 bns 260 bnp bnr 300 bnq)
theorem bja [Gv] (hI : SAll Gv.σ [.mk false (.app 221 (.g (.s 5) .nil)) (.c 1) true, .mk false (.v 2) (.c 0) true, .mk true (.v 1) (.c (-9223372036854775808)) false, .mk true (.c 9223372036854775807) (.v 1) false]) : bp5 := by
 obtain ⟨hP, l0, l1, l2⟩ := bnn hI
 obtain ⟨p1, p2, p3, p4⟩ := oz hP
 have h1 := bN (.rd (.s 5) (.c 0)) (.c 0) (by simp (disch := omega) only [evs, wr, zP, zO, zS, zJ, zD, evq, ev6, ao, av] <;> omega)
 have t1 := acv (σ := Gv.σ) (.v 1)
 try simp (disch := omega) only [evs, wr, zP, zO, zS, zJ, zD, evq, ev6, ao, av] at t1
 have h2 := bF (.c 20000) (.len (.app 121 (.i (.v 1) .nil))) (by simp (disch := omega) only [evs, wr, zP, zO, zS, zJ, zD, evq, ev6, ao, av] <;> omega)
 have h3 := bE (.app 228 (.g (.app 121 (.i (.v 1) .nil)) .nil)) (.c 1) (by simp (disch := omega) only [evs, wr, zP, zO, zS, zJ, zD, evq, ev6, ao, av] <;> omega)
 have h4 := bF (.c 65536) (.bin 0 .i64 (.c 0) (.len (.app 121 (.i (.v 1) .nil)))) (by simp (disch := omega) only [evs, wr, zP, zO, zS, zJ, zD, evq, ev6, ao, av] <;> omega)
 have h5 := bT (.c 0) (.len (.app 121 (.i (.v 1) .nil))) (by simp (disch := omega) only [evs, wr, zP, zO, zS, zJ, zD, evq, ev6, ao, av] <;> omega)
 have h6 := bF (.c 400000) (.len (.app 121 (.i (.v 1) .nil))) (by simp (disch := omega) only [evs, wr, zP, zO, zS, zJ, zD, evq, ev6, ao, av] <;> omega)
 have u := l1
 exact fun hC => ak (n := 2000) (T := []) (E := .nil) (cv (ka hI (sc h1 (sc h2 (sc h3 (sc h4 (sc h5 (sc h6 SAll.nil))))))) _ hsh) al (ka hI (sc h1 (sc h2 (sc h3 (sc h4 (sc h5 (sc h6 SAll.nil))))))) trivial rfl rfl (by kernel_rfl)
theorem bf7 [Gv] : bo bno := fun σ _ hA _ => (@bja ⟨σ⟩  (cm hA).1) (cm hA).2
end Go.Ev
set_option maxRecDepth 100000
set_option linter.all false
namespace Go.Ev
abbrev fj : GE := .app 224 (.i (.v 1) .nil)
abbrev a7r : List SA := [.mk true (.v 1) (.c 37) false, .mk true (.c 61) (.v 1) false]
noncomputable section
def bok : List AV := [.ptr (K.of 256) 0, .ptr (K.of 257) 0, .agg [.int .i64 1, vI 1]]
def boh : List HO := []
def boi : List HO := []
def boj : TR := .ret (.gv (.str fj []))
def bog : TM := .mk 89 bok 258 boh (a7r ++ []) none boj 300 boi
end
def bqi [Gv] : Prop := (SAll Gv.σ [] → br 89 bok 258 boh boj 300 boi)
theorem bjf [Gv] (hI : SAll Gv.σ a7r) : bqi := by
 obtain ⟨l1, l2⟩ := ba5 hI
 rcases zq4 hI (.v 1) (.c 37) with ⟨hI, k1⟩ | ⟨hI, k1⟩
 ·have t1 := zf4 (nh (σ := Gv.σ) (.v 1))
  exact fun hC => ak (n := 2000) (T := []) (E := (.g (.lit 5 435711799154) fj .nil)) aq al hI (by refine ⟨?_, trivial⟩; show _ = gc ((Gv.σ 1).headD 0); rw [show (Gv.σ 1).headD 0 = 37 by omega]; rfl) rfl rfl (by kernel_rfl)
 ·rcases zq4 hI (.v 1) (.c 38) with ⟨hI, k2⟩ | ⟨hI, k2⟩
  ·have t2 := zf4 (nh (σ := Gv.σ) (.v 1))
   exact fun hC => ak (n := 2000) (T := []) (E := (.g (.lit 4 1366649204) fj .nil)) aq al hI (by refine ⟨?_, trivial⟩; show _ = gc ((Gv.σ 1).headD 0); rw [show (Gv.σ 1).headD 0 = 38 by omega]; rfl) rfl rfl (by kernel_rfl)
  ·rcases zq4 hI (.v 1) (.c 39) with ⟨hI, k3⟩ | ⟨hI, k3⟩
   ·have t3 := zf4 (nh (σ := Gv.σ) (.v 1))
    exact fun hC => ak (n := 2000) (T := []) (E := (.g (.lit 34 2474410630932727377597886420607714910640743022003832465725656947999023520950479204) fj .nil)) aq al hI (by refine ⟨?_, trivial⟩; show _ = gc ((Gv.σ 1).headD 0); rw [show (Gv.σ 1).headD 0 = 39 by omega]; rfl) rfl rfl (by kernel_rfl)
   ·rcases zq4 hI (.v 1) (.c 40) with ⟨hI, k4⟩ | ⟨hI, k4⟩
    ·have t4 := zf4 (nh (σ := Gv.σ) (.v 1))
     exact fun hC => ak (n := 2000) (T := []) (E := (.g (.lit 36 162162975108807221418248534593593113541937247801840157019933644485534649521355334052196) fj .nil)) aq al hI (by refine ⟨?_, trivial⟩; show _ = gc ((Gv.σ 1).headD 0); rw [show (Gv.σ 1).headD 0 = 40 by omega]; rfl) rfl rfl (by kernel_rfl)
    ·rcases zq4 hI (.v 1) (.c 41) with ⟨hI, k5⟩ | ⟨hI, k5⟩
     ·have t5 := zf4 (nh (σ := Gv.σ) (.v 1))
      exact fun hC => ak (n := 2000) (T := []) (E := (.g (.lit 19 1950133550961657483528332258631226515867922036) fj .nil)) aq al hI (by refine ⟨?_, trivial⟩; show _ = gc ((Gv.σ 1).headD 0); rw [show (Gv.σ 1).headD 0 = 41 by omega]; rfl) rfl rfl (by kernel_rfl)
     ·rcases zq4 hI (.v 1) (.c 42) with ⟨hI, k6⟩ | ⟨hI, k6⟩
      ·have t6 := zf4 (nh (σ := Gv.σ) (.v 1))
       exact fun hC => ak (n := 2000) (T := []) (E := (.g (.lit 25 548913795839601291734620567343820710277016461182677518546035) fj .nil)) aq al hI (by refine ⟨?_, trivial⟩; show _ = gc ((Gv.σ 1).headD 0); rw [show (Gv.σ 1).headD 0 = 42 by omega]; rfl) rfl rfl (by kernel_rfl)
      ·rcases zq4 hI (.v 1) (.c 43) with ⟨hI, k7⟩ | ⟨hI, k7⟩
       ·have t7 := zf4 (nh (σ := Gv.σ) (.v 1))
        exact fun hC => ak (n := 2000) (T := []) (E := (.g (.lit 17 22270422983003810071078578862527016232805) fj .nil)) aq al hI (by refine ⟨?_, trivial⟩; show _ = gc ((Gv.σ 1).headD 0); rw [show (Gv.σ 1).headD 0 = 43 by omega]; rfl) rfl rfl (by kernel_rfl)
       ·rcases zq4 hI (.v 1) (.c 44) with ⟨hI, k8⟩ | ⟨hI, k8⟩
        ·have t8 := zf4 (nh (σ := Gv.σ) (.v 1))
         exact fun hC => ak (n := 2000) (T := []) (E := (.g (.lit 16 86993880443686430210646523940892209010) fj .nil)) aq al hI (by refine ⟨?_, trivial⟩; show _ = gc ((Gv.σ 1).headD 0); rw [show (Gv.σ 1).headD 0 = 44 by omega]; rfl) rfl rfl (by kernel_rfl)
        ·rcases zq4 hI (.v 1) (.c 45) with ⟨hI, k9⟩ | ⟨hI, k9⟩
         ·have t9 := zf4 (nh (σ := Gv.σ) (.v 1))
          exact fun hC => ak (n := 2000) (T := []) (E := (.g (.lit 25 410816985222033898293683305305969992564214613434849148694386) fj .nil)) aq al hI (by refine ⟨?_, trivial⟩; show _ = gc ((Gv.σ 1).headD 0); rw [show (Gv.σ 1).headD 0 = 45 by omega]; rfl) rfl rfl (by kernel_rfl)
         ·rcases zq4 hI (.v 1) (.c 46) with ⟨hI, k10⟩ | ⟨hI, k10⟩
          ·have t10 := zf4 (nh (σ := Gv.σ) (.v 1))
           exact fun hC => ak (n := 2000) (T := []) (E := (.g (.lit 32 29606092754482749442124766862931187947938481574591561018658451704994527866732) fj .nil)) aq al hI (by refine ⟨?_, trivial⟩; show _ = gc ((Gv.σ 1).headD 0); rw [show (Gv.σ 1).headD 0 = 46 by omega]; rfl) rfl rfl (by kernel_rfl)
          ·rcases zq4 hI (.v 1) (.c 47) with ⟨hI, k11⟩ | ⟨hI, k11⟩
           ·have t11 := zf4 (nh (σ := Gv.σ) (.v 1))
            exact fun hC => ak (n := 2000) (T := []) (E := (.g (.lit 16 104256785533376960501710456271341379943) fj .nil)) aq al hI (by refine ⟨?_, trivial⟩; show _ = gc ((Gv.σ 1).headD 0); rw [show (Gv.σ 1).headD 0 = 47 by omega]; rfl) rfl rfl (by kernel_rfl)
           ·rcases zq4 hI (.v 1) (.c 48) with ⟨hI, k12⟩ | ⟨hI, k12⟩
            ·have t12 := zf4 (nh (σ := Gv.σ) (.v 1))
             exact fun hC => ak (n := 2000) (T := []) (E := (.g (.lit 16 97607197389754475647958871692519501678) fj .nil)) aq al hI (by refine ⟨?_, trivial⟩; show _ = gc ((Gv.σ 1).headD 0); rw [show (Gv.σ 1).headD 0 = 48 by omega]; rfl) rfl rfl (by kernel_rfl)
            ·rcases zq4 hI (.v 1) (.c 49) with ⟨hI, k13⟩ | ⟨hI, k13⟩
             ·have t13 := zf4 (nh (σ := Gv.σ) (.v 1))
              exact fun hC => ak (n := 2000) (T := []) (E := (.g (.lit 19 1637577033762547024926977261714086675480863096) fj .nil)) aq al hI (by refine ⟨?_, trivial⟩; show _ = gc ((Gv.σ 1).headD 0); rw [show (Gv.σ 1).headD 0 = 49 by omega]; rfl) rfl rfl (by kernel_rfl)
             ·rcases zq4 hI (.v 1) (.c 50) with ⟨hI, k14⟩ | ⟨hI, k14⟩
              ·have t14 := zf4 (nh (σ := Gv.σ) (.v 1))
               exact fun hC => ak (n := 2000) (T := []) (E := (.g (.lit 26 111571661344298619715335452253032484697461966020890905358724711) fj .nil)) aq al hI (by refine ⟨?_, trivial⟩; show _ = gc ((Gv.σ 1).headD 0); rw [show (Gv.σ 1).headD 0 = 50 by omega]; rfl) rfl rfl (by kernel_rfl)
              ·rcases zq4 hI (.v 1) (.c 51) with ⟨hI, k15⟩ | ⟨hI, k15⟩
               ·have t15 := zf4 (nh (σ := Gv.σ) (.v 1))
                exact fun hC => ak (n := 2000) (T := []) (E := (.g (.lit 20 436234934257145827881500471233509324988353572720) fj .nil)) aq al hI (by refine ⟨?_, trivial⟩; show _ = gc ((Gv.σ 1).headD 0); rw [show (Gv.σ 1).headD 0 = 51 by omega]; rfl) rfl rfl (by kernel_rfl)
               ·rcases zq4 hI (.v 1) (.c 52) with ⟨hI, k16⟩ | ⟨hI, k16⟩
                ·have t16 := zf4 (nh (σ := Gv.σ) (.v 1))
                 exact fun hC => ak (n := 2000) (T := []) (E := (.g (.lit 20 436234932896073273035244971421842969126423061619) fj .nil)) aq al hI (by refine ⟨?_, trivial⟩; show _ = gc ((Gv.σ 1).headD 0); rw [show (Gv.σ 1).headD 0 = 52 by omega]; rfl) rfl rfl (by kernel_rfl)
                ·rcases zq4 hI (.v 1) (.c 53) with ⟨hI, k17⟩ | ⟨hI, k17⟩
                 ·have t17 := zf4 (nh (σ := Gv.σ) (.v 1))
                  exact fun hC => ak (n := 2000) (T := []) (E := (.g (.lit 16 102877197270551101050824009981887800676) fj .nil)) aq al hI (by refine ⟨?_, trivial⟩; show _ = gc ((Gv.σ 1).headD 0); rw [show (Gv.σ 1).headD 0 = 53 by omega]; rfl) rfl rfl (by kernel_rfl)
                 ·rcases zq4 hI (.v 1) (.c 54) with ⟨hI, k18⟩ | ⟨hI, k18⟩
                  ·have t18 := zf4 (nh (σ := Gv.σ) (.v 1))
                   exact fun hC => ak (n := 2000) (T := []) (E := (.g (.lit 17 28718596279883581943178861598810512977017) fj .nil)) aq al hI (by refine ⟨?_, trivial⟩; show _ = gc ((Gv.σ 1).headD 0); rw [show (Gv.σ 1).headD 0 = 54 by omega]; rfl) rfl rfl (by kernel_rfl)
                  ·rcases zq4 hI (.v 1) (.c 55) with ⟨hI, k19⟩ | ⟨hI, k19⟩
                   ·have t19 := zf4 (nh (σ := Gv.σ) (.v 1))
                    exact fun hC => ak (n := 2000) (T := []) (E := (.g (.lit 19 1480682713208253398950890133412588998422324594) fj .nil)) aq al hI (by refine ⟨?_, trivial⟩; show _ = gc ((Gv.σ 1).headD 0); rw [show (Gv.σ 1).headD 0 = 55 by omega]; rfl) rfl rfl (by kernel_rfl)
                   ·rcases zq4 hI (.v 1) (.c 56) with ⟨hI, k20⟩ | ⟨hI, k20⟩
                    ·have t20 := zf4 (nh (σ := Gv.σ) (.v 1))
                     exact fun hC => ak (n := 2000) (T := []) (E := (.g (.lit 13 5500907610317223748489628247410) fj .nil)) aq al hI (by refine ⟨?_, trivial⟩; show _ = gc ((Gv.σ 1).headD 0); rw [show (Gv.σ 1).headD 0 = 56 by omega]; rfl) rfl rfl (by kernel_rfl)
                    ·rcases zq4 hI (.v 1) (.c 57) with ⟨hI, k21⟩ | ⟨hI, k21⟩
                     ·have t21 := zf4 (nh (σ := Gv.σ) (.v 1))
                      exact fun hC => ak (n := 2000) (T := []) (E := (.g (.lit 13 6607313280663908311219863053668) fj .nil)) aq al hI (by refine ⟨?_, trivial⟩; show _ = gc ((Gv.σ 1).headD 0); rw [show (Gv.σ 1).headD 0 = 57 by omega]; rfl) rfl rfl (by kernel_rfl)
                     ·rcases zq4 hI (.v 1) (.c 58) with ⟨hI, k22⟩ | ⟨hI, k22⟩
                      ·have t22 := zf4 (nh (σ := Gv.σ) (.v 1))
                       exact fun hC => ak (n := 2000) (T := []) (E := (.g (.lit 14 1489367635952064142590622734579824) fj .nil)) aq al hI (by refine ⟨?_, trivial⟩; show _ = gc ((Gv.σ 1).headD 0); rw [show (Gv.σ 1).headD 0 = 58 by omega]; rfl) rfl rfl (by kernel_rfl)
                      ·rcases zq4 hI (.v 1) (.c 59) with ⟨hI, k23⟩ | ⟨hI, k23⟩
                       ·have t23 := zf4 (nh (σ := Gv.σ) (.v 1))
                        exact fun hC => ak (n := 2000) (T := []) (E := (.g (.lit 10 554645564004990348062578) fj .nil)) aq al hI (by refine ⟨?_, trivial⟩; show _ = gc ((Gv.σ 1).headD 0); rw [show (Gv.σ 1).headD 0 = 59 by omega]; rfl) rfl rfl (by kernel_rfl)
                       ·rcases zq4 hI (.v 1) (.c 60) with ⟨hI, k24⟩ | ⟨hI, k24⟩
                        ·have t24 := zf4 (nh (σ := Gv.σ) (.v 1))
                         exact fun hC => ak (n := 2000) (T := []) (E := (.g (.lit 19 1482076165466455327326844766462000498727611513) fj .nil)) aq al hI (by refine ⟨?_, trivial⟩; show _ = gc ((Gv.σ 1).headD 0); rw [show (Gv.σ 1).headD 0 = 60 by omega]; rfl) rfl rfl (by kernel_rfl)
                        ·have hI := zE4 hI (.v 1) (.c 61)
                         have t25 := zf4 (nh (σ := Gv.σ) (.v 1))
                         exact fun hC => ak (n := 2000) (T := []) (E := (.g (.lit 55 925786928265516441047990922559239183907596304670955544686144890757164694330519221366623969756496488659329897626885951943124186001264) fj .nil)) aq al hI (by refine ⟨?_, trivial⟩; show _ = gc ((Gv.σ 1).headD 0); rw [show (Gv.σ 1).headD 0 = 61 by omega]; rfl) rfl rfl (by kernel_rfl)
theorem bgn [Gv] : bo bog := fun σ _ hA _ => (@bjf ⟨σ⟩  (cm hA).1) (cm hA).2
end Go.Ev
