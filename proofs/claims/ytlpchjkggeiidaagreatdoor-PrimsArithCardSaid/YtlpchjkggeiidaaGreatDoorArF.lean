/- PrimsArith: every two integers lie on one of the paths. -/
import Derived.Test.YtlpchjkggeiidaaGreatDoorArL
import Derived.IntWalk
set_option linter.all false
set_option maxRecDepth 100000
namespace Go.Proofs.YtlpchjkggeiidaaGreatDoor
open Go.Ev
/-- both integers are in range -/
structure Rng (a b : Int) : Prop where
  a1 : -2305843009213693952 ≤ a
  a2 : a ≤ 2305843009213693951
  b1 : -2305843009213693952 ≤ b
  b2 : b ≤ 2305843009213693951
def ab (a b : Int) : Nat → Int := fun i => if i = 0 then a else if i = 1 then b else 0
theorem wr {z : Int} (h1 : -9223372036854775808 ≤ z) (h2 : z ≤ 9223372036854775807) : IntKind.i64.wrap z = z := Go.IntWalk.i64_in _ (by omega)
/-- quotient and remainder -/
structure QR (a b : Int) : Prop where
  e : a.tdiv b * b + a.tmod b = a
  p1 : 0 < b → a.tmod b < b ∧ -b < a.tmod b
  p2 : b < 0 → a.tmod b < -b ∧ b < a.tmod b
  n1 : 0 ≤ a → 0 ≤ a.tmod b
  n2 : a ≤ 0 → a.tmod b ≤ 0
  q1 : -2305843009213693952 ≤ a.tdiv b
  q2 : a.tdiv b ≤ 2305843009213693952
  q3 : b ≠ -1 → a.tdiv b ≤ 2305843009213693951
  q4 : b = -1 → a.tdiv b = -a
  d1 : a.tmod b = 0 → 0 < a → 0 < b → b ≤ a
  d2 : a.tmod b = 0 → a < 0 → b < 0 → a ≤ b
  d3 : a.tmod b = 0 → 0 < a → b < 0 → -b ≤ a
  d4 : a.tmod b = 0 → a < 0 → 0 < b → b ≤ -a
  d5 : b = a → a.tmod b = 0
theorem qr {a b : Int} (h : Rng a b) : QR a b := by
  obtain ⟨a1, a2, b1, b2⟩ := h
  have e : a.tdiv b * b + a.tmod b = a := by have := Int.tmod_add_mul_tdiv a b; rw [Int.mul_comm] at this; omega
  have n1 : 0 ≤ a → 0 ≤ a.tmod b := fun h => Int.tmod_nonneg b h
  have n2 : a ≤ 0 → a.tmod b ≤ 0 := fun h => by have := Int.tmod_nonneg b (a := -a) (by omega); rw [Int.neg_tmod] at this; omega
  have lt : ∀ x : Int, 0 < b → 0 ≤ x → x.tmod b < b := fun x hb hx => by rw [Int.tmod_eq_emod_of_nonneg hx]; exact Int.emod_lt_of_pos x hb
  have p1 : 0 < b → a.tmod b < b ∧ -b < a.tmod b := fun hb => by
    rcases Int.le_total 0 a with h | h
    · have := lt a hb h; have := n1 h; omega
    · have := lt (-a) hb (by omega); rw [Int.neg_tmod] at this; have := n2 h; omega
  have p2 : b < 0 → a.tmod b < -b ∧ b < a.tmod b := fun hb => by
    have lt' : ∀ x : Int, 0 ≤ x → x.tmod (-b) < -b := fun x hx => by rw [Int.tmod_eq_emod_of_nonneg hx]; exact Int.emod_lt_of_pos x (by omega)
    rcases Int.le_total 0 a with h | h
    · have := lt' a h; rw [Int.tmod_neg] at this; have := n1 h; omega
    · have := lt' (-a) (by omega); rw [Int.tmod_neg, Int.neg_tmod] at this; have := n2 h; omega
  have qa : (a.tdiv b).natAbs ≤ a.natAbs := Int.natAbs_tdiv_le_natAbs a b
  have dd : ∀ x y : Int, x.tmod y = 0 → 0 < x → 0 < y → y ≤ x := fun x y h hx hy => by
    apply Classical.byContradiction
    intro hn
    have := Int.tmod_eq_of_lt (a := x) (b := y) (by omega) (by omega)
    omega
  have d1 := dd a b
  have d2 : a.tmod b = 0 → a < 0 → b < 0 → a ≤ b := fun h ha hb => by have := dd (-a) (-b) (by rw [Int.tmod_neg, Int.neg_tmod]; omega) (by omega) (by omega); omega
  have d3 : a.tmod b = 0 → 0 < a → b < 0 → -b ≤ a := fun h ha hb => dd a (-b) (by rw [Int.tmod_neg]; omega) ha (by omega)
  have d4 : a.tmod b = 0 → a < 0 → 0 < b → b ≤ -a := fun h ha hb => dd (-a) b (by rw [Int.neg_tmod]; omega) (by omega) hb
  refine ⟨e, p1, p2, n1, n2, by omega, by omega, fun hb => ?_, fun hb => ?_, d1, d2, d3, d4, fun hb => by rw [hb, Int.tmod_self]⟩
  · apply Classical.byContradiction
    intro hn
    have hq : a.tdiv b = 2305843009213693952 := by omega
    rw [hq] at e
    rcases Int.lt_trichotomy b 0 with h | h | h
    · have := p2 h; omega
    · subst h; rw [Int.tdiv_zero] at hq; omega
    · have := p1 h; omega
  · subst hb
    rw [Int.tdiv_neg, Int.tdiv_one]
theorem lt_yes {σ : Nat → Int} {x y : SE} (h : x.eval σ < y.eval σ) : (SA.mk true x y true).holds σ := decide_eq_true h
theorem lt_no {σ : Nat → Int} {x y : SE} (h : ¬ x.eval σ < y.eval σ) : (SA.mk true x y false).holds σ := decide_eq_false h
theorem eq_yes {σ : Nat → Int} {x y : SE} (h : x.eval σ = y.eval σ) : (SA.mk false x y true).holds σ := decide_eq_true h
theorem eq_no {σ : Nat → Int} {x y : SE} (h : ¬ x.eval σ = y.eval σ) : (SA.mk false x y false).holds σ := decide_eq_false h
theorem sc {σ : Nat → Int} {x : SA} {l : List SA} (h : x.holds σ) (hl : SAll σ l) : SAll σ (x :: l) := fun y hy => by
  rcases List.mem_cons.1 hy with e | e
  · rw [e]; exact h
  · exact hl y e
theorem snil {σ : Nat → Int} : SAll σ [] := fun _ h => by cases h
theorem v0 (a b : Int) : x0.eval (ab a b) = a := rfl
theorem v1 (a b : Int) : x1.eval (ab a b) = (-2305843009213693952) := rfl
theorem v2 (a b : Int) : x2.eval (ab a b) = 2305843009213693951 := rfl
theorem v3 (a b : Int) : x3.eval (ab a b) = b := rfl
theorem v4 (a b : Int) : x4.eval (ab a b) = 0 := rfl
theorem v5 {a b : Int} (h : Rng a b) : x5.eval (ab a b) = a := by
  show IntKind.i64.wrap (x4.eval (ab a b) + x0.eval (ab a b)) = _
  rw [v4 a b, v0 a b]
  have hq := qr h
  obtain ⟨a1, a2, b1, b2⟩ := h
  obtain ⟨e, p1, p2, n1, n2, q1, q2, q3, q4, d1, d2, d3, d4, d5⟩ := hq
  by_cases hb : b = 0
  · subst hb; refine (wr ?_ ?_).trans ?_ <;> omega
  · refine (wr ?_ ?_).trans ?_ <;> omega
theorem v6 {a b : Int} (h : Rng a b) : x6.eval (ab a b) = a + b := by
  show IntKind.i64.wrap (x5.eval (ab a b) + x3.eval (ab a b)) = _
  rw [v5 h, v3 a b]
  have hq := qr h
  obtain ⟨a1, a2, b1, b2⟩ := h
  obtain ⟨e, p1, p2, n1, n2, q1, q2, q3, q4, d1, d2, d3, d4, d5⟩ := hq
  by_cases hb : b = 0
  · subst hb; refine (wr ?_ ?_).trans ?_ <;> omega
  · refine (wr ?_ ?_).trans ?_ <;> omega
theorem v7 {a b : Int} (h : Rng a b) : x7.eval (ab a b) = a - b := by
  show IntKind.i64.wrap (x0.eval (ab a b) - x3.eval (ab a b)) = _
  rw [v0 a b, v3 a b]
  have hq := qr h
  obtain ⟨a1, a2, b1, b2⟩ := h
  obtain ⟨e, p1, p2, n1, n2, q1, q2, q3, q4, d1, d2, d3, d4, d5⟩ := hq
  by_cases hb : b = 0
  · subst hb; refine (wr ?_ ?_).trans ?_ <;> omega
  · refine (wr ?_ ?_).trans ?_ <;> omega
theorem v8 {a b : Int} (h : Rng a b) : x8.eval (ab a b) = a.tdiv b := by
  show IntKind.i64.wrap ((x0.eval (ab a b)).tdiv (x3.eval (ab a b))) = _
  rw [v0 a b, v3 a b]
  have hq := qr h
  exact wr (by have := hq.q1; omega) (by have := hq.q2; omega)
theorem v9 {a b : Int} (h : Rng a b) : x9.eval (ab a b) = a.tmod b := by
  show (x0.eval (ab a b)).tmod (x3.eval (ab a b)) = _
  rw [v0 a b, v3 a b]
theorem v10 {a b : Int} (h : Rng a b) : x10.eval (ab a b) = a + b := by
  show IntKind.i64.wrap (x0.eval (ab a b) + x3.eval (ab a b)) = _
  rw [v0 a b, v3 a b]
  have hq := qr h
  obtain ⟨a1, a2, b1, b2⟩ := h
  obtain ⟨e, p1, p2, n1, n2, q1, q2, q3, q4, d1, d2, d3, d4, d5⟩ := hq
  by_cases hb : b = 0
  · subst hb; refine (wr ?_ ?_).trans ?_ <;> omega
  · refine (wr ?_ ?_).trans ?_ <;> omega
theorem v11 (a b : Int) : x11.eval (ab a b) = (-1) := rfl
theorem v12 {a b : Int} (h : Rng a b) : x12.eval (ab a b) = a.tdiv b * b := by
  show IntKind.i64.wrap (x8.eval (ab a b) * x3.eval (ab a b)) = _
  rw [v8 h, v3 a b]
  have hq := qr h
  obtain ⟨a1, a2, b1, b2⟩ := h
  obtain ⟨e, p1, p2, n1, n2, q1, q2, q3, q4, d1, d2, d3, d4, d5⟩ := hq
  by_cases hb : b = 0
  · subst hb; refine (wr ?_ ?_).trans ?_ <;> omega
  · refine (wr ?_ ?_).trans ?_ <;> omega
theorem v13 {a b : Int} (h : Rng a b) : x13.eval (ab a b) = a := by
  show IntKind.i64.wrap (x12.eval (ab a b) + x9.eval (ab a b)) = _
  rw [v12 h, v9 h]
  have hq := qr h
  obtain ⟨a1, a2, b1, b2⟩ := h
  obtain ⟨e, p1, p2, n1, n2, q1, q2, q3, q4, d1, d2, d3, d4, d5⟩ := hq
  by_cases hb : b = 0
  · subst hb; refine (wr ?_ ?_).trans ?_ <;> omega
  · refine (wr ?_ ?_).trans ?_ <;> omega
theorem v14 {a b : Int} (h : Rng a b) : x14.eval (ab a b) = -b := by
  show IntKind.i64.wrap (x4.eval (ab a b) - x3.eval (ab a b)) = _
  rw [v4 a b, v3 a b]
  have hq := qr h
  obtain ⟨a1, a2, b1, b2⟩ := h
  obtain ⟨e, p1, p2, n1, n2, q1, q2, q3, q4, d1, d2, d3, d4, d5⟩ := hq
  by_cases hb : b = 0
  · subst hb; refine (wr ?_ ?_).trans ?_ <;> omega
  · refine (wr ?_ ?_).trans ?_ <;> omega
theorem v15 {a b : Int} (h : Rng a b) : x15.eval (ab a b) = b := by
  show IntKind.i64.wrap (x4.eval (ab a b) - x14.eval (ab a b)) = _
  rw [v4 a b, v14 h]
  have hq := qr h
  obtain ⟨a1, a2, b1, b2⟩ := h
  obtain ⟨e, p1, p2, n1, n2, q1, q2, q3, q4, d1, d2, d3, d4, d5⟩ := hq
  by_cases hb : b = 0
  · subst hb; refine (wr ?_ ?_).trans ?_ <;> omega
  · refine (wr ?_ ?_).trans ?_ <;> omega
theorem v16 {a b : Int} (h : Rng a b) : x16.eval (ab a b) = 0 := by
  show IntKind.i64.wrap (x9.eval (ab a b) - x9.eval (ab a b)) = _
  rw [v9 h]
  have hq := qr h
  obtain ⟨a1, a2, b1, b2⟩ := h
  obtain ⟨e, p1, p2, n1, n2, q1, q2, q3, q4, d1, d2, d3, d4, d5⟩ := hq
  by_cases hb : b = 0
  · subst hb; refine (wr ?_ ?_).trans ?_ <;> omega
  · refine (wr ?_ ?_).trans ?_ <;> omega
theorem v17 {a b : Int} (h : Rng a b) : x17.eval (ab a b) = a.tmod b + b := by
  show IntKind.i64.wrap (x9.eval (ab a b) + x3.eval (ab a b)) = _
  rw [v9 h, v3 a b]
  have hq := qr h
  obtain ⟨a1, a2, b1, b2⟩ := h
  obtain ⟨e, p1, p2, n1, n2, q1, q2, q3, q4, d1, d2, d3, d4, d5⟩ := hq
  by_cases hb : b = 0
  · subst hb; refine (wr ?_ ?_).trans ?_ <;> omega
  · refine (wr ?_ ?_).trans ?_ <;> omega
theorem v18 {a b : Int} (h : Rng a b) : x18.eval (ab a b) = b := by
  show IntKind.i64.wrap (x17.eval (ab a b) - x9.eval (ab a b)) = _
  rw [v17 h, v9 h]
  have hq := qr h
  obtain ⟨a1, a2, b1, b2⟩ := h
  obtain ⟨e, p1, p2, n1, n2, q1, q2, q3, q4, d1, d2, d3, d4, d5⟩ := hq
  by_cases hb : b = 0
  · subst hb; refine (wr ?_ ?_).trans ?_ <;> omega
  · refine (wr ?_ ?_).trans ?_ <;> omega
/-- what the law says of two integers -/
def LawOk (a b : Int) : Prop := ∀ w : World, LaidIn laidL w → Calls PP 4 #[.int .i64 a, .int .i64 b] w fun e w' => e = .returned (.bool true) ∧ KeptW w w'
theorem law_of {a b : Int} {A : List SA} (hF : SymFact 4 [.sym .i64 x0 A, .sym .i64 x3 A] (.bool true)) (h : SAll (ab a b) A) : LawOk a b := by
  intro w hl
  have hval : (ρσ (ab a b)).val = ab a b := by
    funext i
    by_cases hi : i < 15
    · exact val_σ _ i hi
    · show (if i < 15 then _ else (0 : Int)) = _
      rw [if_neg hi]
      show (0 : Int) = if i = 0 then a else if i = 1 then b else 0
      rw [if_neg (by omega), if_neg (by omega)]
  refine Calls.mono (hF (ab a b) #[.int .i64 a, .int .i64 b] w hl ?_) fun e w' hp => ?_
  · show VRels _ _ [Value.int .i64 a, Value.int .i64 b]
    simp only [VRels, VRel]
    exact ⟨_, _, rfl, ⟨vars_σ _, by rw [hval]; exact h, by rw [hval]; rfl⟩, _, _, rfl, ⟨vars_σ _, by rw [hval]; exact h, by rw [hval]; rfl⟩, rfl⟩
  · obtain ⟨v', rfl, h1, h2⟩ := hp
    simp only [VRel] at h1
    subst h1
    exact ⟨rfl, h2⟩
set_option maxHeartbeats 4000000 in
theorem arith_all (a b : Int) (hw : -9223372036854775808 ≤ a ∧ a ≤ 9223372036854775807 ∧ -9223372036854775808 ≤ b ∧ b ≤ 9223372036854775807) : LawOk a b := by
  by_cases i0 : (a < (-2305843009213693952))
  · have h0 : s0T.holds (ab a b) := lt_yes (by rw [v0 a b, v1 a b] <;> exact i0)
    exact law_of l0 (sc h0 (snil))
  · have h0 : s0F.holds (ab a b) := lt_no (by rw [v0 a b, v1 a b] <;> exact i0)
    by_cases i1 : (2305843009213693951 < a)
    · have h1 : s1T.holds (ab a b) := lt_yes (by rw [v2 a b, v0 a b] <;> exact i1)
      exact law_of l35 (sc h0 (sc h1 (snil)))
    · have h1 : s1F.holds (ab a b) := lt_no (by rw [v2 a b, v0 a b] <;> exact i1)
      by_cases i2 : (b < (-2305843009213693952))
      · have h2 : s2T.holds (ab a b) := lt_yes (by rw [v3 a b, v1 a b] <;> exact i2)
        exact law_of l1 (sc h0 (sc h1 (sc h2 (snil))))
      · have h2 : s2F.holds (ab a b) := lt_no (by rw [v3 a b, v1 a b] <;> exact i2)
        by_cases i3 : (2305843009213693951 < b)
        · have h3 : s3T.holds (ab a b) := lt_yes (by rw [v2 a b, v3 a b] <;> exact i3)
          exact law_of l9 (sc h0 (sc h1 (sc h2 (sc h3 (snil)))))
        · have h3 : s3F.holds (ab a b) := lt_no (by rw [v2 a b, v3 a b] <;> exact i3)
          have hr : Rng a b := ⟨by omega, by omega, by omega, by omega⟩
          obtain ⟨qe, qp1, qp2, qn1, qn2, qq1, qq2, qq3, qq4, qd1, qd2, qd3, qd4, qd5⟩ := qr hr
          have i4 : ¬ (a < (-2305843009213693952)) := by omega
          have h4 : s4F.holds (ab a b) := lt_no (by rw [v5 hr, v1 a b] <;> exact i4)
          have i5 : ¬ (2305843009213693951 < a) := by omega
          have h5 : s5F.holds (ab a b) := lt_no (by rw [v2 a b, v5 hr] <;> exact i5)
          by_cases i6 : (a + b < (-2305843009213693952))
          · have h6 : s6T.holds (ab a b) := lt_yes (by rw [v6 hr, v1 a b] <;> exact i6)
            have i7 : ¬ (a - b < (-2305843009213693952)) := by omega
            have h7 : s7F.holds (ab a b) := lt_no (by rw [v7 hr, v1 a b] <;> exact i7)
            have i8 : ¬ (2305843009213693951 < a - b) := by omega
            have h8 : s8F.holds (ab a b) := lt_no (by rw [v2 a b, v7 hr] <;> exact i8)
            have i9 : ¬ (b = 0) := by omega
            have h9 : s9F.holds (ab a b) := eq_no (by rw [v3 a b, v4 a b] <;> exact i9)
            have i10 : ¬ (a.tdiv b < (-2305843009213693952)) := by omega
            have h10 : s10F.holds (ab a b) := lt_no (by rw [v8 hr, v1 a b] <;> exact i10)
            by_cases i11 : (2305843009213693951 < a.tdiv b)
            · have h11 : s11T.holds (ab a b) := lt_yes (by rw [v2 a b, v8 hr] <;> exact i11)
              have i12 : (a.tmod b = 0) := by omega
              have h12 : s12T.holds (ab a b) := eq_yes (by rw [v9 hr, v4 a b] <;> exact i12)
              have i13 : ¬ (b < a) := by omega
              have h13 : s13F.holds (ab a b) := lt_no (by rw [v3 a b, v0 a b] <;> exact i13)
              have i14 : (a + b < (-2305843009213693952)) := by omega
              have h14 : s14T.holds (ab a b) := lt_yes (by rw [v10 hr, v1 a b] <;> exact i14)
              have i15 : ¬ (b = a) := by omega
              have h15 : s15F.holds (ab a b) := eq_no (by rw [v3 a b, v0 a b] <;> exact i15)
              have i16 : (b = (-1)) := by omega
              have h16 : s16T.holds (ab a b) := eq_yes (by rw [v3 a b, v11 a b] <;> exact i16)
              have i25 : (a = (-2305843009213693952)) := by omega
              have h25 : s25T.holds (ab a b) := eq_yes (by rw [v0 a b, v1 a b] <;> exact i25)
              have i18 : ¬ (-b < b) := by omega
              have h18 : s18F.holds (ab a b) := lt_no (by rw [v14 hr, v3 a b] <;> exact i18)
              have i19 : (b < a.tmod b) := by omega
              have h19 : s19T.holds (ab a b) := lt_yes (by rw [v15 hr, v9 hr] <;> exact i19)
              have i20 : (a.tmod b < -b) := by omega
              have h20 : s20T.holds (ab a b) := lt_yes (by rw [v9 hr, v14 hr] <;> exact i20)
              have i21 : (0 = 0) := by omega
              have h21 : s21T.holds (ab a b) := eq_yes (by rw [v16 hr, v4 a b] <;> exact i21)
              exact law_of l5 (sc h0 (sc h1 (sc h2 (sc h3 (sc h4 (sc h5 (sc h6 (sc h7 (sc h8 (sc h9 (sc h10 (sc h11 (sc h12 (sc h13 (sc h14 (sc h15 (sc h16 (sc h25 (sc h18 (sc h19 (sc h20 (sc h21 (snil)))))))))))))))))))))))
            · have h11 : s11F.holds (ab a b) := lt_no (by rw [v2 a b, v8 hr] <;> exact i11)
              by_cases i12 : (a.tmod b = 0)
              · have h12 : s12T.holds (ab a b) := eq_yes (by rw [v9 hr, v4 a b] <;> exact i12)
                have i13 : ¬ (b < a) := by omega
                have h13 : s13F.holds (ab a b) := lt_no (by rw [v3 a b, v0 a b] <;> exact i13)
                have i14 : (a + b < (-2305843009213693952)) := by omega
                have h14 : s14T.holds (ab a b) := lt_yes (by rw [v10 hr, v1 a b] <;> exact i14)
                by_cases i15 : (b = a)
                · have h15 : s15T.holds (ab a b) := eq_yes (by rw [v3 a b, v0 a b] <;> exact i15)
                  have i16 : ¬ (b = (-1)) := by omega
                  have h16 : s16F.holds (ab a b) := eq_no (by rw [v3 a b, v11 a b] <;> exact i16)
                  have i17 : (a = a) := by omega
                  have h17 : s17T.holds (ab a b) := eq_yes (by rw [v13 hr, v0 a b] <;> exact i17)
                  have i18 : ¬ (-b < b) := by omega
                  have h18 : s18F.holds (ab a b) := lt_no (by rw [v14 hr, v3 a b] <;> exact i18)
                  have i19 : (b < a.tmod b) := by omega
                  have h19 : s19T.holds (ab a b) := lt_yes (by rw [v15 hr, v9 hr] <;> exact i19)
                  have i20 : (a.tmod b < -b) := by omega
                  have h20 : s20T.holds (ab a b) := lt_yes (by rw [v9 hr, v14 hr] <;> exact i20)
                  have i21 : (0 = 0) := by omega
                  have h21 : s21T.holds (ab a b) := eq_yes (by rw [v16 hr, v4 a b] <;> exact i21)
                  exact law_of l2 (sc h0 (sc h1 (sc h2 (sc h3 (sc h4 (sc h5 (sc h6 (sc h7 (sc h8 (sc h9 (sc h10 (sc h11 (sc h12 (sc h13 (sc h14 (sc h15 (sc h16 (sc h17 (sc h18 (sc h19 (sc h20 (sc h21 (snil)))))))))))))))))))))))
                · have h15 : s15F.holds (ab a b) := eq_no (by rw [v3 a b, v0 a b] <;> exact i15)
                  have i16 : ¬ (b = (-1)) := by omega
                  have h16 : s16F.holds (ab a b) := eq_no (by rw [v3 a b, v11 a b] <;> exact i16)
                  have i17 : (a = a) := by omega
                  have h17 : s17T.holds (ab a b) := eq_yes (by rw [v13 hr, v0 a b] <;> exact i17)
                  have i18 : ¬ (-b < b) := by omega
                  have h18 : s18F.holds (ab a b) := lt_no (by rw [v14 hr, v3 a b] <;> exact i18)
                  have i19 : (b < a.tmod b) := by omega
                  have h19 : s19T.holds (ab a b) := lt_yes (by rw [v15 hr, v9 hr] <;> exact i19)
                  have i20 : (a.tmod b < -b) := by omega
                  have h20 : s20T.holds (ab a b) := lt_yes (by rw [v9 hr, v14 hr] <;> exact i20)
                  have i21 : (0 = 0) := by omega
                  have h21 : s21T.holds (ab a b) := eq_yes (by rw [v16 hr, v4 a b] <;> exact i21)
                  exact law_of l4 (sc h0 (sc h1 (sc h2 (sc h3 (sc h4 (sc h5 (sc h6 (sc h7 (sc h8 (sc h9 (sc h10 (sc h11 (sc h12 (sc h13 (sc h14 (sc h15 (sc h16 (sc h17 (sc h18 (sc h19 (sc h20 (sc h21 (snil)))))))))))))))))))))))
              · have h12 : s12F.holds (ab a b) := eq_no (by rw [v9 hr, v4 a b] <;> exact i12)
                have i22 : (a.tmod b < 0) := by omega
                have h22 : s22T.holds (ab a b) := lt_yes (by rw [v9 hr, v4 a b] <;> exact i22)
                have i23 : (b < 0) := by omega
                have h23 : s23T.holds (ab a b) := lt_yes (by rw [v3 a b, v4 a b] <;> exact i23)
                by_cases i13 : (b < a)
                · have h13 : s13T.holds (ab a b) := lt_yes (by rw [v3 a b, v0 a b] <;> exact i13)
                  have i14 : (a + b < (-2305843009213693952)) := by omega
                  have h14 : s14T.holds (ab a b) := lt_yes (by rw [v10 hr, v1 a b] <;> exact i14)
                  have i37 : ¬ (a < b) := by omega
                  have h37 : s37F.holds (ab a b) := lt_no (by rw [v0 a b, v3 a b] <;> exact i37)
                  have i16 : ¬ (b = (-1)) := by omega
                  have h16 : s16F.holds (ab a b) := eq_no (by rw [v3 a b, v11 a b] <;> exact i16)
                  have i17 : (a = a) := by omega
                  have h17 : s17T.holds (ab a b) := eq_yes (by rw [v13 hr, v0 a b] <;> exact i17)
                  have i24 : (a < 0) := by omega
                  have h24 : s24T.holds (ab a b) := lt_yes (by rw [v0 a b, v4 a b] <;> exact i24)
                  have i18 : ¬ (-b < b) := by omega
                  have h18 : s18F.holds (ab a b) := lt_no (by rw [v14 hr, v3 a b] <;> exact i18)
                  have i19 : (b < a.tmod b) := by omega
                  have h19 : s19T.holds (ab a b) := lt_yes (by rw [v15 hr, v9 hr] <;> exact i19)
                  have i20 : (a.tmod b < -b) := by omega
                  have h20 : s20T.holds (ab a b) := lt_yes (by rw [v9 hr, v14 hr] <;> exact i20)
                  have i21 : (0 = 0) := by omega
                  have h21 : s21T.holds (ab a b) := eq_yes (by rw [v16 hr, v4 a b] <;> exact i21)
                  exact law_of l10 (sc h0 (sc h1 (sc h2 (sc h3 (sc h4 (sc h5 (sc h6 (sc h7 (sc h8 (sc h9 (sc h10 (sc h11 (sc h12 (sc h22 (sc h23 (sc h13 (sc h14 (sc h37 (sc h16 (sc h17 (sc h24 (sc h18 (sc h19 (sc h20 (sc h21 (snil))))))))))))))))))))))))))
                · have h13 : s13F.holds (ab a b) := lt_no (by rw [v3 a b, v0 a b] <;> exact i13)
                  have i14 : (a + b < (-2305843009213693952)) := by omega
                  have h14 : s14T.holds (ab a b) := lt_yes (by rw [v10 hr, v1 a b] <;> exact i14)
                  have i15 : ¬ (b = a) := by omega
                  have h15 : s15F.holds (ab a b) := eq_no (by rw [v3 a b, v0 a b] <;> exact i15)
                  have i16 : ¬ (b = (-1)) := by omega
                  have h16 : s16F.holds (ab a b) := eq_no (by rw [v3 a b, v11 a b] <;> exact i16)
                  have i17 : (a = a) := by omega
                  have h17 : s17T.holds (ab a b) := eq_yes (by rw [v13 hr, v0 a b] <;> exact i17)
                  have i24 : (a < 0) := by omega
                  have h24 : s24T.holds (ab a b) := lt_yes (by rw [v0 a b, v4 a b] <;> exact i24)
                  have i18 : ¬ (-b < b) := by omega
                  have h18 : s18F.holds (ab a b) := lt_no (by rw [v14 hr, v3 a b] <;> exact i18)
                  have i19 : (b < a.tmod b) := by omega
                  have h19 : s19T.holds (ab a b) := lt_yes (by rw [v15 hr, v9 hr] <;> exact i19)
                  have i20 : (a.tmod b < -b) := by omega
                  have h20 : s20T.holds (ab a b) := lt_yes (by rw [v9 hr, v14 hr] <;> exact i20)
                  have i21 : (0 = 0) := by omega
                  have h21 : s21T.holds (ab a b) := eq_yes (by rw [v16 hr, v4 a b] <;> exact i21)
                  exact law_of l3 (sc h0 (sc h1 (sc h2 (sc h3 (sc h4 (sc h5 (sc h6 (sc h7 (sc h8 (sc h9 (sc h10 (sc h11 (sc h12 (sc h22 (sc h23 (sc h13 (sc h14 (sc h15 (sc h16 (sc h17 (sc h24 (sc h18 (sc h19 (sc h20 (sc h21 (snil))))))))))))))))))))))))))
          · have h6 : s6F.holds (ab a b) := lt_no (by rw [v6 hr, v1 a b] <;> exact i6)
            by_cases i26 : (2305843009213693951 < a + b)
            · have h26 : s26T.holds (ab a b) := lt_yes (by rw [v2 a b, v6 hr] <;> exact i26)
              have i7 : ¬ (a - b < (-2305843009213693952)) := by omega
              have h7 : s7F.holds (ab a b) := lt_no (by rw [v7 hr, v1 a b] <;> exact i7)
              have i8 : ¬ (2305843009213693951 < a - b) := by omega
              have h8 : s8F.holds (ab a b) := lt_no (by rw [v2 a b, v7 hr] <;> exact i8)
              have i9 : ¬ (b = 0) := by omega
              have h9 : s9F.holds (ab a b) := eq_no (by rw [v3 a b, v4 a b] <;> exact i9)
              have i10 : ¬ (a.tdiv b < (-2305843009213693952)) := by omega
              have h10 : s10F.holds (ab a b) := lt_no (by rw [v8 hr, v1 a b] <;> exact i10)
              have i11 : ¬ (2305843009213693951 < a.tdiv b) := by omega
              have h11 : s11F.holds (ab a b) := lt_no (by rw [v2 a b, v8 hr] <;> exact i11)
              by_cases i12 : (a.tmod b = 0)
              · have h12 : s12T.holds (ab a b) := eq_yes (by rw [v9 hr, v4 a b] <;> exact i12)
                by_cases i13 : (b < a)
                · have h13 : s13T.holds (ab a b) := lt_yes (by rw [v3 a b, v0 a b] <;> exact i13)
                  have i14 : ¬ (a + b < (-2305843009213693952)) := by omega
                  have h14 : s14F.holds (ab a b) := lt_no (by rw [v10 hr, v1 a b] <;> exact i14)
                  have i27 : (2305843009213693951 < a + b) := by omega
                  have h27 : s27T.holds (ab a b) := lt_yes (by rw [v2 a b, v10 hr] <;> exact i27)
                  have i37 : ¬ (a < b) := by omega
                  have h37 : s37F.holds (ab a b) := lt_no (by rw [v0 a b, v3 a b] <;> exact i37)
                  have i16 : ¬ (b = (-1)) := by omega
                  have h16 : s16F.holds (ab a b) := eq_no (by rw [v3 a b, v11 a b] <;> exact i16)
                  have i17 : (a = a) := by omega
                  have h17 : s17T.holds (ab a b) := eq_yes (by rw [v13 hr, v0 a b] <;> exact i17)
                  have i18 : (-b < b) := by omega
                  have h18 : s18T.holds (ab a b) := lt_yes (by rw [v14 hr, v3 a b] <;> exact i18)
                  have i29 : (-b < a.tmod b) := by omega
                  have h29 : s29T.holds (ab a b) := lt_yes (by rw [v14 hr, v9 hr] <;> exact i29)
                  have i30 : (a.tmod b < b) := by omega
                  have h30 : s30T.holds (ab a b) := lt_yes (by rw [v9 hr, v3 a b] <;> exact i30)
                  have i21 : (0 = 0) := by omega
                  have h21 : s21T.holds (ab a b) := eq_yes (by rw [v16 hr, v4 a b] <;> exact i21)
                  exact law_of l32 (sc h0 (sc h1 (sc h2 (sc h3 (sc h4 (sc h5 (sc h6 (sc h26 (sc h7 (sc h8 (sc h9 (sc h10 (sc h11 (sc h12 (sc h13 (sc h14 (sc h27 (sc h37 (sc h16 (sc h17 (sc h18 (sc h29 (sc h30 (sc h21 (snil)))))))))))))))))))))))))
                · have h13 : s13F.holds (ab a b) := lt_no (by rw [v3 a b, v0 a b] <;> exact i13)
                  have i14 : ¬ (a + b < (-2305843009213693952)) := by omega
                  have h14 : s14F.holds (ab a b) := lt_no (by rw [v10 hr, v1 a b] <;> exact i14)
                  have i27 : (2305843009213693951 < a + b) := by omega
                  have h27 : s27T.holds (ab a b) := lt_yes (by rw [v2 a b, v10 hr] <;> exact i27)
                  have i15 : (b = a) := by omega
                  have h15 : s15T.holds (ab a b) := eq_yes (by rw [v3 a b, v0 a b] <;> exact i15)
                  have i16 : ¬ (b = (-1)) := by omega
                  have h16 : s16F.holds (ab a b) := eq_no (by rw [v3 a b, v11 a b] <;> exact i16)
                  have i17 : (a = a) := by omega
                  have h17 : s17T.holds (ab a b) := eq_yes (by rw [v13 hr, v0 a b] <;> exact i17)
                  have i18 : (-b < b) := by omega
                  have h18 : s18T.holds (ab a b) := lt_yes (by rw [v14 hr, v3 a b] <;> exact i18)
                  have i29 : (-b < a.tmod b) := by omega
                  have h29 : s29T.holds (ab a b) := lt_yes (by rw [v14 hr, v9 hr] <;> exact i29)
                  have i30 : (a.tmod b < b) := by omega
                  have h30 : s30T.holds (ab a b) := lt_yes (by rw [v9 hr, v3 a b] <;> exact i30)
                  have i21 : (0 = 0) := by omega
                  have h21 : s21T.holds (ab a b) := eq_yes (by rw [v16 hr, v4 a b] <;> exact i21)
                  exact law_of l31 (sc h0 (sc h1 (sc h2 (sc h3 (sc h4 (sc h5 (sc h6 (sc h26 (sc h7 (sc h8 (sc h9 (sc h10 (sc h11 (sc h12 (sc h13 (sc h14 (sc h27 (sc h15 (sc h16 (sc h17 (sc h18 (sc h29 (sc h30 (sc h21 (snil)))))))))))))))))))))))))
              · have h12 : s12F.holds (ab a b) := eq_no (by rw [v9 hr, v4 a b] <;> exact i12)
                have i22 : ¬ (a.tmod b < 0) := by omega
                have h22 : s22F.holds (ab a b) := lt_no (by rw [v9 hr, v4 a b] <;> exact i22)
                have i23 : ¬ (b < 0) := by omega
                have h23 : s23F.holds (ab a b) := lt_no (by rw [v3 a b, v4 a b] <;> exact i23)
                by_cases i13 : (b < a)
                · have h13 : s13T.holds (ab a b) := lt_yes (by rw [v3 a b, v0 a b] <;> exact i13)
                  have i14 : ¬ (a + b < (-2305843009213693952)) := by omega
                  have h14 : s14F.holds (ab a b) := lt_no (by rw [v10 hr, v1 a b] <;> exact i14)
                  have i27 : (2305843009213693951 < a + b) := by omega
                  have h27 : s27T.holds (ab a b) := lt_yes (by rw [v2 a b, v10 hr] <;> exact i27)
                  have i37 : ¬ (a < b) := by omega
                  have h37 : s37F.holds (ab a b) := lt_no (by rw [v0 a b, v3 a b] <;> exact i37)
                  have i16 : ¬ (b = (-1)) := by omega
                  have h16 : s16F.holds (ab a b) := eq_no (by rw [v3 a b, v11 a b] <;> exact i16)
                  have i17 : (a = a) := by omega
                  have h17 : s17T.holds (ab a b) := eq_yes (by rw [v13 hr, v0 a b] <;> exact i17)
                  have i24 : ¬ (a < 0) := by omega
                  have h24 : s24F.holds (ab a b) := lt_no (by rw [v0 a b, v4 a b] <;> exact i24)
                  have i18 : (-b < b) := by omega
                  have h18 : s18T.holds (ab a b) := lt_yes (by rw [v14 hr, v3 a b] <;> exact i18)
                  have i29 : (-b < a.tmod b) := by omega
                  have h29 : s29T.holds (ab a b) := lt_yes (by rw [v14 hr, v9 hr] <;> exact i29)
                  have i30 : (a.tmod b < b) := by omega
                  have h30 : s30T.holds (ab a b) := lt_yes (by rw [v9 hr, v3 a b] <;> exact i30)
                  have i21 : (0 = 0) := by omega
                  have h21 : s21T.holds (ab a b) := eq_yes (by rw [v16 hr, v4 a b] <;> exact i21)
                  exact law_of l33 (sc h0 (sc h1 (sc h2 (sc h3 (sc h4 (sc h5 (sc h6 (sc h26 (sc h7 (sc h8 (sc h9 (sc h10 (sc h11 (sc h12 (sc h22 (sc h23 (sc h13 (sc h14 (sc h27 (sc h37 (sc h16 (sc h17 (sc h24 (sc h18 (sc h29 (sc h30 (sc h21 (snil))))))))))))))))))))))))))))
                · have h13 : s13F.holds (ab a b) := lt_no (by rw [v3 a b, v0 a b] <;> exact i13)
                  have i14 : ¬ (a + b < (-2305843009213693952)) := by omega
                  have h14 : s14F.holds (ab a b) := lt_no (by rw [v10 hr, v1 a b] <;> exact i14)
                  have i27 : (2305843009213693951 < a + b) := by omega
                  have h27 : s27T.holds (ab a b) := lt_yes (by rw [v2 a b, v10 hr] <;> exact i27)
                  have i15 : ¬ (b = a) := by omega
                  have h15 : s15F.holds (ab a b) := eq_no (by rw [v3 a b, v0 a b] <;> exact i15)
                  have i16 : ¬ (b = (-1)) := by omega
                  have h16 : s16F.holds (ab a b) := eq_no (by rw [v3 a b, v11 a b] <;> exact i16)
                  have i17 : (a = a) := by omega
                  have h17 : s17T.holds (ab a b) := eq_yes (by rw [v13 hr, v0 a b] <;> exact i17)
                  have i24 : ¬ (a < 0) := by omega
                  have h24 : s24F.holds (ab a b) := lt_no (by rw [v0 a b, v4 a b] <;> exact i24)
                  have i18 : (-b < b) := by omega
                  have h18 : s18T.holds (ab a b) := lt_yes (by rw [v14 hr, v3 a b] <;> exact i18)
                  have i29 : (-b < a.tmod b) := by omega
                  have h29 : s29T.holds (ab a b) := lt_yes (by rw [v14 hr, v9 hr] <;> exact i29)
                  have i30 : (a.tmod b < b) := by omega
                  have h30 : s30T.holds (ab a b) := lt_yes (by rw [v9 hr, v3 a b] <;> exact i30)
                  have i21 : (0 = 0) := by omega
                  have h21 : s21T.holds (ab a b) := eq_yes (by rw [v16 hr, v4 a b] <;> exact i21)
                  exact law_of l28 (sc h0 (sc h1 (sc h2 (sc h3 (sc h4 (sc h5 (sc h6 (sc h26 (sc h7 (sc h8 (sc h9 (sc h10 (sc h11 (sc h12 (sc h22 (sc h23 (sc h13 (sc h14 (sc h27 (sc h15 (sc h16 (sc h17 (sc h24 (sc h18 (sc h29 (sc h30 (sc h21 (snil))))))))))))))))))))))))))))
            · have h26 : s26F.holds (ab a b) := lt_no (by rw [v2 a b, v6 hr] <;> exact i26)
              by_cases i7 : (a - b < (-2305843009213693952))
              · have h7 : s7T.holds (ab a b) := lt_yes (by rw [v7 hr, v1 a b] <;> exact i7)
                have i9 : ¬ (b = 0) := by omega
                have h9 : s9F.holds (ab a b) := eq_no (by rw [v3 a b, v4 a b] <;> exact i9)
                have i10 : ¬ (a.tdiv b < (-2305843009213693952)) := by omega
                have h10 : s10F.holds (ab a b) := lt_no (by rw [v8 hr, v1 a b] <;> exact i10)
                have i11 : ¬ (2305843009213693951 < a.tdiv b) := by omega
                have h11 : s11F.holds (ab a b) := lt_no (by rw [v2 a b, v8 hr] <;> exact i11)
                by_cases i12 : (a.tmod b = 0)
                · have h12 : s12T.holds (ab a b) := eq_yes (by rw [v9 hr, v4 a b] <;> exact i12)
                  have i13 : ¬ (b < a) := by omega
                  have h13 : s13F.holds (ab a b) := lt_no (by rw [v3 a b, v0 a b] <;> exact i13)
                  have i14 : ¬ (a + b < (-2305843009213693952)) := by omega
                  have h14 : s14F.holds (ab a b) := lt_no (by rw [v10 hr, v1 a b] <;> exact i14)
                  have i27 : ¬ (2305843009213693951 < a + b) := by omega
                  have h27 : s27F.holds (ab a b) := lt_no (by rw [v2 a b, v10 hr] <;> exact i27)
                  have i28 : (a + b = a + b) := by omega
                  have h28 : s28T.holds (ab a b) := eq_yes (by rw [v6 hr, v10 hr] <;> exact i28)
                  have i15 : ¬ (b = a) := by omega
                  have h15 : s15F.holds (ab a b) := eq_no (by rw [v3 a b, v0 a b] <;> exact i15)
                  have i16 : ¬ (b = (-1)) := by omega
                  have h16 : s16F.holds (ab a b) := eq_no (by rw [v3 a b, v11 a b] <;> exact i16)
                  have i17 : (a = a) := by omega
                  have h17 : s17T.holds (ab a b) := eq_yes (by rw [v13 hr, v0 a b] <;> exact i17)
                  have i18 : (-b < b) := by omega
                  have h18 : s18T.holds (ab a b) := lt_yes (by rw [v14 hr, v3 a b] <;> exact i18)
                  have i29 : (-b < a.tmod b) := by omega
                  have h29 : s29T.holds (ab a b) := lt_yes (by rw [v14 hr, v9 hr] <;> exact i29)
                  have i30 : (a.tmod b < b) := by omega
                  have h30 : s30T.holds (ab a b) := lt_yes (by rw [v9 hr, v3 a b] <;> exact i30)
                  have i21 : (0 = 0) := by omega
                  have h21 : s21T.holds (ab a b) := eq_yes (by rw [v16 hr, v4 a b] <;> exact i21)
                  exact law_of l7 (sc h0 (sc h1 (sc h2 (sc h3 (sc h4 (sc h5 (sc h6 (sc h26 (sc h7 (sc h9 (sc h10 (sc h11 (sc h12 (sc h13 (sc h14 (sc h27 (sc h28 (sc h15 (sc h16 (sc h17 (sc h18 (sc h29 (sc h30 (sc h21 (snil)))))))))))))))))))))))))
                · have h12 : s12F.holds (ab a b) := eq_no (by rw [v9 hr, v4 a b] <;> exact i12)
                  have i22 : (a.tmod b < 0) := by omega
                  have h22 : s22T.holds (ab a b) := lt_yes (by rw [v9 hr, v4 a b] <;> exact i22)
                  have i23 : ¬ (b < 0) := by omega
                  have h23 : s23F.holds (ab a b) := lt_no (by rw [v3 a b, v4 a b] <;> exact i23)
                  have i13 : ¬ (b < a) := by omega
                  have h13 : s13F.holds (ab a b) := lt_no (by rw [v3 a b, v0 a b] <;> exact i13)
                  have i14 : ¬ (a + b < (-2305843009213693952)) := by omega
                  have h14 : s14F.holds (ab a b) := lt_no (by rw [v10 hr, v1 a b] <;> exact i14)
                  have i27 : ¬ (2305843009213693951 < a + b) := by omega
                  have h27 : s27F.holds (ab a b) := lt_no (by rw [v2 a b, v10 hr] <;> exact i27)
                  have i28 : (a + b = a + b) := by omega
                  have h28 : s28T.holds (ab a b) := eq_yes (by rw [v6 hr, v10 hr] <;> exact i28)
                  have i15 : ¬ (b = a) := by omega
                  have h15 : s15F.holds (ab a b) := eq_no (by rw [v3 a b, v0 a b] <;> exact i15)
                  have i16 : ¬ (b = (-1)) := by omega
                  have h16 : s16F.holds (ab a b) := eq_no (by rw [v3 a b, v11 a b] <;> exact i16)
                  have i17 : (a = a) := by omega
                  have h17 : s17T.holds (ab a b) := eq_yes (by rw [v13 hr, v0 a b] <;> exact i17)
                  have i24 : (a < 0) := by omega
                  have h24 : s24T.holds (ab a b) := lt_yes (by rw [v0 a b, v4 a b] <;> exact i24)
                  have i31 : ¬ (a.tmod b + b = 0) := by omega
                  have h31 : s31F.holds (ab a b) := eq_no (by rw [v17 hr, v4 a b] <;> exact i31)
                  have i32 : ¬ (a.tmod b + b < 0) := by omega
                  have h32 : s32F.holds (ab a b) := lt_no (by rw [v17 hr, v4 a b] <;> exact i32)
                  have i18 : (-b < b) := by omega
                  have h18 : s18T.holds (ab a b) := lt_yes (by rw [v14 hr, v3 a b] <;> exact i18)
                  have i29 : (-b < a.tmod b) := by omega
                  have h29 : s29T.holds (ab a b) := lt_yes (by rw [v14 hr, v9 hr] <;> exact i29)
                  have i30 : (a.tmod b < b) := by omega
                  have h30 : s30T.holds (ab a b) := lt_yes (by rw [v9 hr, v3 a b] <;> exact i30)
                  have i33 : (-b < a.tmod b + b) := by omega
                  have h33 : s33T.holds (ab a b) := lt_yes (by rw [v14 hr, v17 hr] <;> exact i33)
                  have i34 : (a.tmod b + b < b) := by omega
                  have h34 : s34T.holds (ab a b) := lt_yes (by rw [v17 hr, v3 a b] <;> exact i34)
                  have i35 : ¬ (b = 0) := by omega
                  have h35 : s35F.holds (ab a b) := eq_no (by rw [v18 hr, v4 a b] <;> exact i35)
                  have i36 : (b = b) := by omega
                  have h36 : s36T.holds (ab a b) := eq_yes (by rw [v18 hr, v3 a b] <;> exact i36)
                  exact law_of l8 (sc h0 (sc h1 (sc h2 (sc h3 (sc h4 (sc h5 (sc h6 (sc h26 (sc h7 (sc h9 (sc h10 (sc h11 (sc h12 (sc h22 (sc h23 (sc h13 (sc h14 (sc h27 (sc h28 (sc h15 (sc h16 (sc h17 (sc h24 (sc h31 (sc h32 (sc h18 (sc h29 (sc h30 (sc h33 (sc h34 (sc h35 (sc h36 (snil)))))))))))))))))))))))))))))))))
              · have h7 : s7F.holds (ab a b) := lt_no (by rw [v7 hr, v1 a b] <;> exact i7)
                by_cases i8 : (2305843009213693951 < a - b)
                · have h8 : s8T.holds (ab a b) := lt_yes (by rw [v2 a b, v7 hr] <;> exact i8)
                  have i9 : ¬ (b = 0) := by omega
                  have h9 : s9F.holds (ab a b) := eq_no (by rw [v3 a b, v4 a b] <;> exact i9)
                  have i10 : ¬ (a.tdiv b < (-2305843009213693952)) := by omega
                  have h10 : s10F.holds (ab a b) := lt_no (by rw [v8 hr, v1 a b] <;> exact i10)
                  have i11 : ¬ (2305843009213693951 < a.tdiv b) := by omega
                  have h11 : s11F.holds (ab a b) := lt_no (by rw [v2 a b, v8 hr] <;> exact i11)
                  by_cases i12 : (a.tmod b = 0)
                  · have h12 : s12T.holds (ab a b) := eq_yes (by rw [v9 hr, v4 a b] <;> exact i12)
                    have i13 : (b < a) := by omega
                    have h13 : s13T.holds (ab a b) := lt_yes (by rw [v3 a b, v0 a b] <;> exact i13)
                    have i14 : ¬ (a + b < (-2305843009213693952)) := by omega
                    have h14 : s14F.holds (ab a b) := lt_no (by rw [v10 hr, v1 a b] <;> exact i14)
                    have i27 : ¬ (2305843009213693951 < a + b) := by omega
                    have h27 : s27F.holds (ab a b) := lt_no (by rw [v2 a b, v10 hr] <;> exact i27)
                    have i28 : (a + b = a + b) := by omega
                    have h28 : s28T.holds (ab a b) := eq_yes (by rw [v6 hr, v10 hr] <;> exact i28)
                    have i37 : ¬ (a < b) := by omega
                    have h37 : s37F.holds (ab a b) := lt_no (by rw [v0 a b, v3 a b] <;> exact i37)
                    by_cases i16 : (b = (-1))
                    · have h16 : s16T.holds (ab a b) := eq_yes (by rw [v3 a b, v11 a b] <;> exact i16)
                      have i25 : ¬ (a = (-2305843009213693952)) := by omega
                      have h25 : s25F.holds (ab a b) := eq_no (by rw [v0 a b, v1 a b] <;> exact i25)
                      have i17 : (a = a) := by omega
                      have h17 : s17T.holds (ab a b) := eq_yes (by rw [v13 hr, v0 a b] <;> exact i17)
                      have i18 : ¬ (-b < b) := by omega
                      have h18 : s18F.holds (ab a b) := lt_no (by rw [v14 hr, v3 a b] <;> exact i18)
                      have i19 : (b < a.tmod b) := by omega
                      have h19 : s19T.holds (ab a b) := lt_yes (by rw [v15 hr, v9 hr] <;> exact i19)
                      have i20 : (a.tmod b < -b) := by omega
                      have h20 : s20T.holds (ab a b) := lt_yes (by rw [v9 hr, v14 hr] <;> exact i20)
                      have i21 : (0 = 0) := by omega
                      have h21 : s21T.holds (ab a b) := eq_yes (by rw [v16 hr, v4 a b] <;> exact i21)
                      exact law_of l34 (sc h0 (sc h1 (sc h2 (sc h3 (sc h4 (sc h5 (sc h6 (sc h26 (sc h7 (sc h8 (sc h9 (sc h10 (sc h11 (sc h12 (sc h13 (sc h14 (sc h27 (sc h28 (sc h37 (sc h16 (sc h25 (sc h17 (sc h18 (sc h19 (sc h20 (sc h21 (snil)))))))))))))))))))))))))))
                    · have h16 : s16F.holds (ab a b) := eq_no (by rw [v3 a b, v11 a b] <;> exact i16)
                      have i17 : (a = a) := by omega
                      have h17 : s17T.holds (ab a b) := eq_yes (by rw [v13 hr, v0 a b] <;> exact i17)
                      have i18 : ¬ (-b < b) := by omega
                      have h18 : s18F.holds (ab a b) := lt_no (by rw [v14 hr, v3 a b] <;> exact i18)
                      have i19 : (b < a.tmod b) := by omega
                      have h19 : s19T.holds (ab a b) := lt_yes (by rw [v15 hr, v9 hr] <;> exact i19)
                      have i20 : (a.tmod b < -b) := by omega
                      have h20 : s20T.holds (ab a b) := lt_yes (by rw [v9 hr, v14 hr] <;> exact i20)
                      have i21 : (0 = 0) := by omega
                      have h21 : s21T.holds (ab a b) := eq_yes (by rw [v16 hr, v4 a b] <;> exact i21)
                      exact law_of l19 (sc h0 (sc h1 (sc h2 (sc h3 (sc h4 (sc h5 (sc h6 (sc h26 (sc h7 (sc h8 (sc h9 (sc h10 (sc h11 (sc h12 (sc h13 (sc h14 (sc h27 (sc h28 (sc h37 (sc h16 (sc h17 (sc h18 (sc h19 (sc h20 (sc h21 (snil))))))))))))))))))))))))))
                  · have h12 : s12F.holds (ab a b) := eq_no (by rw [v9 hr, v4 a b] <;> exact i12)
                    have i22 : ¬ (a.tmod b < 0) := by omega
                    have h22 : s22F.holds (ab a b) := lt_no (by rw [v9 hr, v4 a b] <;> exact i22)
                    have i23 : (b < 0) := by omega
                    have h23 : s23T.holds (ab a b) := lt_yes (by rw [v3 a b, v4 a b] <;> exact i23)
                    have i13 : (b < a) := by omega
                    have h13 : s13T.holds (ab a b) := lt_yes (by rw [v3 a b, v0 a b] <;> exact i13)
                    have i14 : ¬ (a + b < (-2305843009213693952)) := by omega
                    have h14 : s14F.holds (ab a b) := lt_no (by rw [v10 hr, v1 a b] <;> exact i14)
                    have i27 : ¬ (2305843009213693951 < a + b) := by omega
                    have h27 : s27F.holds (ab a b) := lt_no (by rw [v2 a b, v10 hr] <;> exact i27)
                    have i28 : (a + b = a + b) := by omega
                    have h28 : s28T.holds (ab a b) := eq_yes (by rw [v6 hr, v10 hr] <;> exact i28)
                    have i37 : ¬ (a < b) := by omega
                    have h37 : s37F.holds (ab a b) := lt_no (by rw [v0 a b, v3 a b] <;> exact i37)
                    have i16 : ¬ (b = (-1)) := by omega
                    have h16 : s16F.holds (ab a b) := eq_no (by rw [v3 a b, v11 a b] <;> exact i16)
                    have i17 : (a = a) := by omega
                    have h17 : s17T.holds (ab a b) := eq_yes (by rw [v13 hr, v0 a b] <;> exact i17)
                    have i24 : ¬ (a < 0) := by omega
                    have h24 : s24F.holds (ab a b) := lt_no (by rw [v0 a b, v4 a b] <;> exact i24)
                    have i31 : ¬ (a.tmod b + b = 0) := by omega
                    have h31 : s31F.holds (ab a b) := eq_no (by rw [v17 hr, v4 a b] <;> exact i31)
                    have i32 : (a.tmod b + b < 0) := by omega
                    have h32 : s32T.holds (ab a b) := lt_yes (by rw [v17 hr, v4 a b] <;> exact i32)
                    have i18 : ¬ (-b < b) := by omega
                    have h18 : s18F.holds (ab a b) := lt_no (by rw [v14 hr, v3 a b] <;> exact i18)
                    have i19 : (b < a.tmod b) := by omega
                    have h19 : s19T.holds (ab a b) := lt_yes (by rw [v15 hr, v9 hr] <;> exact i19)
                    have i20 : (a.tmod b < -b) := by omega
                    have h20 : s20T.holds (ab a b) := lt_yes (by rw [v9 hr, v14 hr] <;> exact i20)
                    have i38 : (b < a.tmod b + b) := by omega
                    have h38 : s38T.holds (ab a b) := lt_yes (by rw [v15 hr, v17 hr] <;> exact i38)
                    have i39 : (a.tmod b + b < -b) := by omega
                    have h39 : s39T.holds (ab a b) := lt_yes (by rw [v17 hr, v14 hr] <;> exact i39)
                    have i35 : ¬ (b = 0) := by omega
                    have h35 : s35F.holds (ab a b) := eq_no (by rw [v18 hr, v4 a b] <;> exact i35)
                    have i36 : (b = b) := by omega
                    have h36 : s36T.holds (ab a b) := eq_yes (by rw [v18 hr, v3 a b] <;> exact i36)
                    exact law_of l23 (sc h0 (sc h1 (sc h2 (sc h3 (sc h4 (sc h5 (sc h6 (sc h26 (sc h7 (sc h8 (sc h9 (sc h10 (sc h11 (sc h12 (sc h22 (sc h23 (sc h13 (sc h14 (sc h27 (sc h28 (sc h37 (sc h16 (sc h17 (sc h24 (sc h31 (sc h32 (sc h18 (sc h19 (sc h20 (sc h38 (sc h39 (sc h35 (sc h36 (snil))))))))))))))))))))))))))))))))))
                · have h8 : s8F.holds (ab a b) := lt_no (by rw [v2 a b, v7 hr] <;> exact i8)
                  by_cases i9 : (b = 0)
                  · have h9 : s9T.holds (ab a b) := eq_yes (by rw [v3 a b, v4 a b] <;> exact i9)
                    by_cases i13 : (b < a)
                    · have h13 : s13T.holds (ab a b) := lt_yes (by rw [v3 a b, v0 a b] <;> exact i13)
                      have i14 : ¬ (a + b < (-2305843009213693952)) := by omega
                      have h14 : s14F.holds (ab a b) := lt_no (by rw [v10 hr, v1 a b] <;> exact i14)
                      have i27 : ¬ (2305843009213693951 < a + b) := by omega
                      have h27 : s27F.holds (ab a b) := lt_no (by rw [v2 a b, v10 hr] <;> exact i27)
                      have i28 : (a + b = a + b) := by omega
                      have h28 : s28T.holds (ab a b) := eq_yes (by rw [v6 hr, v10 hr] <;> exact i28)
                      have i37 : ¬ (a < b) := by omega
                      have h37 : s37F.holds (ab a b) := lt_no (by rw [v0 a b, v3 a b] <;> exact i37)
                      exact law_of l25 (sc h0 (sc h1 (sc h2 (sc h3 (sc h4 (sc h5 (sc h6 (sc h26 (sc h7 (sc h8 (sc h9 (sc h13 (sc h14 (sc h27 (sc h28 (sc h37 (snil)))))))))))))))))
                    · have h13 : s13F.holds (ab a b) := lt_no (by rw [v3 a b, v0 a b] <;> exact i13)
                      have i14 : ¬ (a + b < (-2305843009213693952)) := by omega
                      have h14 : s14F.holds (ab a b) := lt_no (by rw [v10 hr, v1 a b] <;> exact i14)
                      have i27 : ¬ (2305843009213693951 < a + b) := by omega
                      have h27 : s27F.holds (ab a b) := lt_no (by rw [v2 a b, v10 hr] <;> exact i27)
                      have i28 : (a + b = a + b) := by omega
                      have h28 : s28T.holds (ab a b) := eq_yes (by rw [v6 hr, v10 hr] <;> exact i28)
                      by_cases i15 : (b = a)
                      · have h15 : s15T.holds (ab a b) := eq_yes (by rw [v3 a b, v0 a b] <;> exact i15)
                        exact law_of l22 (sc h0 (sc h1 (sc h2 (sc h3 (sc h4 (sc h5 (sc h6 (sc h26 (sc h7 (sc h8 (sc h9 (sc h13 (sc h14 (sc h27 (sc h28 (sc h15 (snil)))))))))))))))))
                      · have h15 : s15F.holds (ab a b) := eq_no (by rw [v3 a b, v0 a b] <;> exact i15)
                        exact law_of l6 (sc h0 (sc h1 (sc h2 (sc h3 (sc h4 (sc h5 (sc h6 (sc h26 (sc h7 (sc h8 (sc h9 (sc h13 (sc h14 (sc h27 (sc h28 (sc h15 (snil)))))))))))))))))
                  · have h9 : s9F.holds (ab a b) := eq_no (by rw [v3 a b, v4 a b] <;> exact i9)
                    have i10 : ¬ (a.tdiv b < (-2305843009213693952)) := by omega
                    have h10 : s10F.holds (ab a b) := lt_no (by rw [v8 hr, v1 a b] <;> exact i10)
                    have i11 : ¬ (2305843009213693951 < a.tdiv b) := by omega
                    have h11 : s11F.holds (ab a b) := lt_no (by rw [v2 a b, v8 hr] <;> exact i11)
                    by_cases i12 : (a.tmod b = 0)
                    · have h12 : s12T.holds (ab a b) := eq_yes (by rw [v9 hr, v4 a b] <;> exact i12)
                      by_cases i13 : (b < a)
                      · have h13 : s13T.holds (ab a b) := lt_yes (by rw [v3 a b, v0 a b] <;> exact i13)
                        have i14 : ¬ (a + b < (-2305843009213693952)) := by omega
                        have h14 : s14F.holds (ab a b) := lt_no (by rw [v10 hr, v1 a b] <;> exact i14)
                        have i27 : ¬ (2305843009213693951 < a + b) := by omega
                        have h27 : s27F.holds (ab a b) := lt_no (by rw [v2 a b, v10 hr] <;> exact i27)
                        have i28 : (a + b = a + b) := by omega
                        have h28 : s28T.holds (ab a b) := eq_yes (by rw [v6 hr, v10 hr] <;> exact i28)
                        have i37 : ¬ (a < b) := by omega
                        have h37 : s37F.holds (ab a b) := lt_no (by rw [v0 a b, v3 a b] <;> exact i37)
                        by_cases i16 : (b = (-1))
                        · have h16 : s16T.holds (ab a b) := eq_yes (by rw [v3 a b, v11 a b] <;> exact i16)
                          have i25 : ¬ (a = (-2305843009213693952)) := by omega
                          have h25 : s25F.holds (ab a b) := eq_no (by rw [v0 a b, v1 a b] <;> exact i25)
                          have i17 : (a = a) := by omega
                          have h17 : s17T.holds (ab a b) := eq_yes (by rw [v13 hr, v0 a b] <;> exact i17)
                          have i18 : ¬ (-b < b) := by omega
                          have h18 : s18F.holds (ab a b) := lt_no (by rw [v14 hr, v3 a b] <;> exact i18)
                          have i19 : (b < a.tmod b) := by omega
                          have h19 : s19T.holds (ab a b) := lt_yes (by rw [v15 hr, v9 hr] <;> exact i19)
                          have i20 : (a.tmod b < -b) := by omega
                          have h20 : s20T.holds (ab a b) := lt_yes (by rw [v9 hr, v14 hr] <;> exact i20)
                          have i21 : (0 = 0) := by omega
                          have h21 : s21T.holds (ab a b) := eq_yes (by rw [v16 hr, v4 a b] <;> exact i21)
                          exact law_of l21 (sc h0 (sc h1 (sc h2 (sc h3 (sc h4 (sc h5 (sc h6 (sc h26 (sc h7 (sc h8 (sc h9 (sc h10 (sc h11 (sc h12 (sc h13 (sc h14 (sc h27 (sc h28 (sc h37 (sc h16 (sc h25 (sc h17 (sc h18 (sc h19 (sc h20 (sc h21 (snil)))))))))))))))))))))))))))
                        · have h16 : s16F.holds (ab a b) := eq_no (by rw [v3 a b, v11 a b] <;> exact i16)
                          have i17 : (a = a) := by omega
                          have h17 : s17T.holds (ab a b) := eq_yes (by rw [v13 hr, v0 a b] <;> exact i17)
                          by_cases i18 : (-b < b)
                          · have h18 : s18T.holds (ab a b) := lt_yes (by rw [v14 hr, v3 a b] <;> exact i18)
                            have i29 : (-b < a.tmod b) := by omega
                            have h29 : s29T.holds (ab a b) := lt_yes (by rw [v14 hr, v9 hr] <;> exact i29)
                            have i30 : (a.tmod b < b) := by omega
                            have h30 : s30T.holds (ab a b) := lt_yes (by rw [v9 hr, v3 a b] <;> exact i30)
                            have i21 : (0 = 0) := by omega
                            have h21 : s21T.holds (ab a b) := eq_yes (by rw [v16 hr, v4 a b] <;> exact i21)
                            exact law_of l29 (sc h0 (sc h1 (sc h2 (sc h3 (sc h4 (sc h5 (sc h6 (sc h26 (sc h7 (sc h8 (sc h9 (sc h10 (sc h11 (sc h12 (sc h13 (sc h14 (sc h27 (sc h28 (sc h37 (sc h16 (sc h17 (sc h18 (sc h29 (sc h30 (sc h21 (snil))))))))))))))))))))))))))
                          · have h18 : s18F.holds (ab a b) := lt_no (by rw [v14 hr, v3 a b] <;> exact i18)
                            have i19 : (b < a.tmod b) := by omega
                            have h19 : s19T.holds (ab a b) := lt_yes (by rw [v15 hr, v9 hr] <;> exact i19)
                            have i20 : (a.tmod b < -b) := by omega
                            have h20 : s20T.holds (ab a b) := lt_yes (by rw [v9 hr, v14 hr] <;> exact i20)
                            have i21 : (0 = 0) := by omega
                            have h21 : s21T.holds (ab a b) := eq_yes (by rw [v16 hr, v4 a b] <;> exact i21)
                            exact law_of l20 (sc h0 (sc h1 (sc h2 (sc h3 (sc h4 (sc h5 (sc h6 (sc h26 (sc h7 (sc h8 (sc h9 (sc h10 (sc h11 (sc h12 (sc h13 (sc h14 (sc h27 (sc h28 (sc h37 (sc h16 (sc h17 (sc h18 (sc h19 (sc h20 (sc h21 (snil))))))))))))))))))))))))))
                      · have h13 : s13F.holds (ab a b) := lt_no (by rw [v3 a b, v0 a b] <;> exact i13)
                        have i14 : ¬ (a + b < (-2305843009213693952)) := by omega
                        have h14 : s14F.holds (ab a b) := lt_no (by rw [v10 hr, v1 a b] <;> exact i14)
                        have i27 : ¬ (2305843009213693951 < a + b) := by omega
                        have h27 : s27F.holds (ab a b) := lt_no (by rw [v2 a b, v10 hr] <;> exact i27)
                        have i28 : (a + b = a + b) := by omega
                        have h28 : s28T.holds (ab a b) := eq_yes (by rw [v6 hr, v10 hr] <;> exact i28)
                        by_cases i15 : (b = a)
                        · have h15 : s15T.holds (ab a b) := eq_yes (by rw [v3 a b, v0 a b] <;> exact i15)
                          by_cases i16 : (b = (-1))
                          · have h16 : s16T.holds (ab a b) := eq_yes (by rw [v3 a b, v11 a b] <;> exact i16)
                            have i25 : ¬ (a = (-2305843009213693952)) := by omega
                            have h25 : s25F.holds (ab a b) := eq_no (by rw [v0 a b, v1 a b] <;> exact i25)
                            have i17 : (a = a) := by omega
                            have h17 : s17T.holds (ab a b) := eq_yes (by rw [v13 hr, v0 a b] <;> exact i17)
                            have i18 : ¬ (-b < b) := by omega
                            have h18 : s18F.holds (ab a b) := lt_no (by rw [v14 hr, v3 a b] <;> exact i18)
                            have i19 : (b < a.tmod b) := by omega
                            have h19 : s19T.holds (ab a b) := lt_yes (by rw [v15 hr, v9 hr] <;> exact i19)
                            have i20 : (a.tmod b < -b) := by omega
                            have h20 : s20T.holds (ab a b) := lt_yes (by rw [v9 hr, v14 hr] <;> exact i20)
                            have i21 : (0 = 0) := by omega
                            have h21 : s21T.holds (ab a b) := eq_yes (by rw [v16 hr, v4 a b] <;> exact i21)
                            exact law_of l18 (sc h0 (sc h1 (sc h2 (sc h3 (sc h4 (sc h5 (sc h6 (sc h26 (sc h7 (sc h8 (sc h9 (sc h10 (sc h11 (sc h12 (sc h13 (sc h14 (sc h27 (sc h28 (sc h15 (sc h16 (sc h25 (sc h17 (sc h18 (sc h19 (sc h20 (sc h21 (snil)))))))))))))))))))))))))))
                          · have h16 : s16F.holds (ab a b) := eq_no (by rw [v3 a b, v11 a b] <;> exact i16)
                            have i17 : (a = a) := by omega
                            have h17 : s17T.holds (ab a b) := eq_yes (by rw [v13 hr, v0 a b] <;> exact i17)
                            by_cases i18 : (-b < b)
                            · have h18 : s18T.holds (ab a b) := lt_yes (by rw [v14 hr, v3 a b] <;> exact i18)
                              have i29 : (-b < a.tmod b) := by omega
                              have h29 : s29T.holds (ab a b) := lt_yes (by rw [v14 hr, v9 hr] <;> exact i29)
                              have i30 : (a.tmod b < b) := by omega
                              have h30 : s30T.holds (ab a b) := lt_yes (by rw [v9 hr, v3 a b] <;> exact i30)
                              have i21 : (0 = 0) := by omega
                              have h21 : s21T.holds (ab a b) := eq_yes (by rw [v16 hr, v4 a b] <;> exact i21)
                              exact law_of l26 (sc h0 (sc h1 (sc h2 (sc h3 (sc h4 (sc h5 (sc h6 (sc h26 (sc h7 (sc h8 (sc h9 (sc h10 (sc h11 (sc h12 (sc h13 (sc h14 (sc h27 (sc h28 (sc h15 (sc h16 (sc h17 (sc h18 (sc h29 (sc h30 (sc h21 (snil))))))))))))))))))))))))))
                            · have h18 : s18F.holds (ab a b) := lt_no (by rw [v14 hr, v3 a b] <;> exact i18)
                              have i19 : (b < a.tmod b) := by omega
                              have h19 : s19T.holds (ab a b) := lt_yes (by rw [v15 hr, v9 hr] <;> exact i19)
                              have i20 : (a.tmod b < -b) := by omega
                              have h20 : s20T.holds (ab a b) := lt_yes (by rw [v9 hr, v14 hr] <;> exact i20)
                              have i21 : (0 = 0) := by omega
                              have h21 : s21T.holds (ab a b) := eq_yes (by rw [v16 hr, v4 a b] <;> exact i21)
                              exact law_of l14 (sc h0 (sc h1 (sc h2 (sc h3 (sc h4 (sc h5 (sc h6 (sc h26 (sc h7 (sc h8 (sc h9 (sc h10 (sc h11 (sc h12 (sc h13 (sc h14 (sc h27 (sc h28 (sc h15 (sc h16 (sc h17 (sc h18 (sc h19 (sc h20 (sc h21 (snil))))))))))))))))))))))))))
                        · have h15 : s15F.holds (ab a b) := eq_no (by rw [v3 a b, v0 a b] <;> exact i15)
                          by_cases i16 : (b = (-1))
                          · have h16 : s16T.holds (ab a b) := eq_yes (by rw [v3 a b, v11 a b] <;> exact i16)
                            have i25 : ¬ (a = (-2305843009213693952)) := by omega
                            have h25 : s25F.holds (ab a b) := eq_no (by rw [v0 a b, v1 a b] <;> exact i25)
                            have i17 : (a = a) := by omega
                            have h17 : s17T.holds (ab a b) := eq_yes (by rw [v13 hr, v0 a b] <;> exact i17)
                            have i18 : ¬ (-b < b) := by omega
                            have h18 : s18F.holds (ab a b) := lt_no (by rw [v14 hr, v3 a b] <;> exact i18)
                            have i19 : (b < a.tmod b) := by omega
                            have h19 : s19T.holds (ab a b) := lt_yes (by rw [v15 hr, v9 hr] <;> exact i19)
                            have i20 : (a.tmod b < -b) := by omega
                            have h20 : s20T.holds (ab a b) := lt_yes (by rw [v9 hr, v14 hr] <;> exact i20)
                            have i21 : (0 = 0) := by omega
                            have h21 : s21T.holds (ab a b) := eq_yes (by rw [v16 hr, v4 a b] <;> exact i21)
                            exact law_of l11 (sc h0 (sc h1 (sc h2 (sc h3 (sc h4 (sc h5 (sc h6 (sc h26 (sc h7 (sc h8 (sc h9 (sc h10 (sc h11 (sc h12 (sc h13 (sc h14 (sc h27 (sc h28 (sc h15 (sc h16 (sc h25 (sc h17 (sc h18 (sc h19 (sc h20 (sc h21 (snil)))))))))))))))))))))))))))
                          · have h16 : s16F.holds (ab a b) := eq_no (by rw [v3 a b, v11 a b] <;> exact i16)
                            have i17 : (a = a) := by omega
                            have h17 : s17T.holds (ab a b) := eq_yes (by rw [v13 hr, v0 a b] <;> exact i17)
                            by_cases i18 : (-b < b)
                            · have h18 : s18T.holds (ab a b) := lt_yes (by rw [v14 hr, v3 a b] <;> exact i18)
                              have i29 : (-b < a.tmod b) := by omega
                              have h29 : s29T.holds (ab a b) := lt_yes (by rw [v14 hr, v9 hr] <;> exact i29)
                              have i30 : (a.tmod b < b) := by omega
                              have h30 : s30T.holds (ab a b) := lt_yes (by rw [v9 hr, v3 a b] <;> exact i30)
                              have i21 : (0 = 0) := by omega
                              have h21 : s21T.holds (ab a b) := eq_yes (by rw [v16 hr, v4 a b] <;> exact i21)
                              exact law_of l12 (sc h0 (sc h1 (sc h2 (sc h3 (sc h4 (sc h5 (sc h6 (sc h26 (sc h7 (sc h8 (sc h9 (sc h10 (sc h11 (sc h12 (sc h13 (sc h14 (sc h27 (sc h28 (sc h15 (sc h16 (sc h17 (sc h18 (sc h29 (sc h30 (sc h21 (snil))))))))))))))))))))))))))
                            · have h18 : s18F.holds (ab a b) := lt_no (by rw [v14 hr, v3 a b] <;> exact i18)
                              have i19 : (b < a.tmod b) := by omega
                              have h19 : s19T.holds (ab a b) := lt_yes (by rw [v15 hr, v9 hr] <;> exact i19)
                              have i20 : (a.tmod b < -b) := by omega
                              have h20 : s20T.holds (ab a b) := lt_yes (by rw [v9 hr, v14 hr] <;> exact i20)
                              have i21 : (0 = 0) := by omega
                              have h21 : s21T.holds (ab a b) := eq_yes (by rw [v16 hr, v4 a b] <;> exact i21)
                              exact law_of l13 (sc h0 (sc h1 (sc h2 (sc h3 (sc h4 (sc h5 (sc h6 (sc h26 (sc h7 (sc h8 (sc h9 (sc h10 (sc h11 (sc h12 (sc h13 (sc h14 (sc h27 (sc h28 (sc h15 (sc h16 (sc h17 (sc h18 (sc h19 (sc h20 (sc h21 (snil))))))))))))))))))))))))))
                    · have h12 : s12F.holds (ab a b) := eq_no (by rw [v9 hr, v4 a b] <;> exact i12)
                      by_cases i22 : (a.tmod b < 0)
                      · have h22 : s22T.holds (ab a b) := lt_yes (by rw [v9 hr, v4 a b] <;> exact i22)
                        by_cases i23 : (b < 0)
                        · have h23 : s23T.holds (ab a b) := lt_yes (by rw [v3 a b, v4 a b] <;> exact i23)
                          by_cases i13 : (b < a)
                          · have h13 : s13T.holds (ab a b) := lt_yes (by rw [v3 a b, v0 a b] <;> exact i13)
                            have i14 : ¬ (a + b < (-2305843009213693952)) := by omega
                            have h14 : s14F.holds (ab a b) := lt_no (by rw [v10 hr, v1 a b] <;> exact i14)
                            have i27 : ¬ (2305843009213693951 < a + b) := by omega
                            have h27 : s27F.holds (ab a b) := lt_no (by rw [v2 a b, v10 hr] <;> exact i27)
                            have i28 : (a + b = a + b) := by omega
                            have h28 : s28T.holds (ab a b) := eq_yes (by rw [v6 hr, v10 hr] <;> exact i28)
                            have i37 : ¬ (a < b) := by omega
                            have h37 : s37F.holds (ab a b) := lt_no (by rw [v0 a b, v3 a b] <;> exact i37)
                            have i16 : ¬ (b = (-1)) := by omega
                            have h16 : s16F.holds (ab a b) := eq_no (by rw [v3 a b, v11 a b] <;> exact i16)
                            have i17 : (a = a) := by omega
                            have h17 : s17T.holds (ab a b) := eq_yes (by rw [v13 hr, v0 a b] <;> exact i17)
                            have i24 : (a < 0) := by omega
                            have h24 : s24T.holds (ab a b) := lt_yes (by rw [v0 a b, v4 a b] <;> exact i24)
                            have i18 : ¬ (-b < b) := by omega
                            have h18 : s18F.holds (ab a b) := lt_no (by rw [v14 hr, v3 a b] <;> exact i18)
                            have i19 : (b < a.tmod b) := by omega
                            have h19 : s19T.holds (ab a b) := lt_yes (by rw [v15 hr, v9 hr] <;> exact i19)
                            have i20 : (a.tmod b < -b) := by omega
                            have h20 : s20T.holds (ab a b) := lt_yes (by rw [v9 hr, v14 hr] <;> exact i20)
                            have i21 : (0 = 0) := by omega
                            have h21 : s21T.holds (ab a b) := eq_yes (by rw [v16 hr, v4 a b] <;> exact i21)
                            exact law_of l17 (sc h0 (sc h1 (sc h2 (sc h3 (sc h4 (sc h5 (sc h6 (sc h26 (sc h7 (sc h8 (sc h9 (sc h10 (sc h11 (sc h12 (sc h22 (sc h23 (sc h13 (sc h14 (sc h27 (sc h28 (sc h37 (sc h16 (sc h17 (sc h24 (sc h18 (sc h19 (sc h20 (sc h21 (snil)))))))))))))))))))))))))))))
                          · have h13 : s13F.holds (ab a b) := lt_no (by rw [v3 a b, v0 a b] <;> exact i13)
                            have i14 : ¬ (a + b < (-2305843009213693952)) := by omega
                            have h14 : s14F.holds (ab a b) := lt_no (by rw [v10 hr, v1 a b] <;> exact i14)
                            have i27 : ¬ (2305843009213693951 < a + b) := by omega
                            have h27 : s27F.holds (ab a b) := lt_no (by rw [v2 a b, v10 hr] <;> exact i27)
                            have i28 : (a + b = a + b) := by omega
                            have h28 : s28T.holds (ab a b) := eq_yes (by rw [v6 hr, v10 hr] <;> exact i28)
                            have i15 : ¬ (b = a) := by omega
                            have h15 : s15F.holds (ab a b) := eq_no (by rw [v3 a b, v0 a b] <;> exact i15)
                            have i16 : ¬ (b = (-1)) := by omega
                            have h16 : s16F.holds (ab a b) := eq_no (by rw [v3 a b, v11 a b] <;> exact i16)
                            have i17 : (a = a) := by omega
                            have h17 : s17T.holds (ab a b) := eq_yes (by rw [v13 hr, v0 a b] <;> exact i17)
                            have i24 : (a < 0) := by omega
                            have h24 : s24T.holds (ab a b) := lt_yes (by rw [v0 a b, v4 a b] <;> exact i24)
                            have i18 : ¬ (-b < b) := by omega
                            have h18 : s18F.holds (ab a b) := lt_no (by rw [v14 hr, v3 a b] <;> exact i18)
                            have i19 : (b < a.tmod b) := by omega
                            have h19 : s19T.holds (ab a b) := lt_yes (by rw [v15 hr, v9 hr] <;> exact i19)
                            have i20 : (a.tmod b < -b) := by omega
                            have h20 : s20T.holds (ab a b) := lt_yes (by rw [v9 hr, v14 hr] <;> exact i20)
                            have i21 : (0 = 0) := by omega
                            have h21 : s21T.holds (ab a b) := eq_yes (by rw [v16 hr, v4 a b] <;> exact i21)
                            exact law_of l15 (sc h0 (sc h1 (sc h2 (sc h3 (sc h4 (sc h5 (sc h6 (sc h26 (sc h7 (sc h8 (sc h9 (sc h10 (sc h11 (sc h12 (sc h22 (sc h23 (sc h13 (sc h14 (sc h27 (sc h28 (sc h15 (sc h16 (sc h17 (sc h24 (sc h18 (sc h19 (sc h20 (sc h21 (snil)))))))))))))))))))))))))))))
                        · have h23 : s23F.holds (ab a b) := lt_no (by rw [v3 a b, v4 a b] <;> exact i23)
                          have i13 : ¬ (b < a) := by omega
                          have h13 : s13F.holds (ab a b) := lt_no (by rw [v3 a b, v0 a b] <;> exact i13)
                          have i14 : ¬ (a + b < (-2305843009213693952)) := by omega
                          have h14 : s14F.holds (ab a b) := lt_no (by rw [v10 hr, v1 a b] <;> exact i14)
                          have i27 : ¬ (2305843009213693951 < a + b) := by omega
                          have h27 : s27F.holds (ab a b) := lt_no (by rw [v2 a b, v10 hr] <;> exact i27)
                          have i28 : (a + b = a + b) := by omega
                          have h28 : s28T.holds (ab a b) := eq_yes (by rw [v6 hr, v10 hr] <;> exact i28)
                          have i15 : ¬ (b = a) := by omega
                          have h15 : s15F.holds (ab a b) := eq_no (by rw [v3 a b, v0 a b] <;> exact i15)
                          have i16 : ¬ (b = (-1)) := by omega
                          have h16 : s16F.holds (ab a b) := eq_no (by rw [v3 a b, v11 a b] <;> exact i16)
                          have i17 : (a = a) := by omega
                          have h17 : s17T.holds (ab a b) := eq_yes (by rw [v13 hr, v0 a b] <;> exact i17)
                          have i24 : (a < 0) := by omega
                          have h24 : s24T.holds (ab a b) := lt_yes (by rw [v0 a b, v4 a b] <;> exact i24)
                          have i31 : ¬ (a.tmod b + b = 0) := by omega
                          have h31 : s31F.holds (ab a b) := eq_no (by rw [v17 hr, v4 a b] <;> exact i31)
                          have i32 : ¬ (a.tmod b + b < 0) := by omega
                          have h32 : s32F.holds (ab a b) := lt_no (by rw [v17 hr, v4 a b] <;> exact i32)
                          have i18 : (-b < b) := by omega
                          have h18 : s18T.holds (ab a b) := lt_yes (by rw [v14 hr, v3 a b] <;> exact i18)
                          have i29 : (-b < a.tmod b) := by omega
                          have h29 : s29T.holds (ab a b) := lt_yes (by rw [v14 hr, v9 hr] <;> exact i29)
                          have i30 : (a.tmod b < b) := by omega
                          have h30 : s30T.holds (ab a b) := lt_yes (by rw [v9 hr, v3 a b] <;> exact i30)
                          have i33 : (-b < a.tmod b + b) := by omega
                          have h33 : s33T.holds (ab a b) := lt_yes (by rw [v14 hr, v17 hr] <;> exact i33)
                          have i34 : (a.tmod b + b < b) := by omega
                          have h34 : s34T.holds (ab a b) := lt_yes (by rw [v17 hr, v3 a b] <;> exact i34)
                          have i35 : ¬ (b = 0) := by omega
                          have h35 : s35F.holds (ab a b) := eq_no (by rw [v18 hr, v4 a b] <;> exact i35)
                          have i36 : (b = b) := by omega
                          have h36 : s36T.holds (ab a b) := eq_yes (by rw [v18 hr, v3 a b] <;> exact i36)
                          exact law_of l16 (sc h0 (sc h1 (sc h2 (sc h3 (sc h4 (sc h5 (sc h6 (sc h26 (sc h7 (sc h8 (sc h9 (sc h10 (sc h11 (sc h12 (sc h22 (sc h23 (sc h13 (sc h14 (sc h27 (sc h28 (sc h15 (sc h16 (sc h17 (sc h24 (sc h31 (sc h32 (sc h18 (sc h29 (sc h30 (sc h33 (sc h34 (sc h35 (sc h36 (snil))))))))))))))))))))))))))))))))))
                      · have h22 : s22F.holds (ab a b) := lt_no (by rw [v9 hr, v4 a b] <;> exact i22)
                        by_cases i23 : (b < 0)
                        · have h23 : s23T.holds (ab a b) := lt_yes (by rw [v3 a b, v4 a b] <;> exact i23)
                          have i13 : (b < a) := by omega
                          have h13 : s13T.holds (ab a b) := lt_yes (by rw [v3 a b, v0 a b] <;> exact i13)
                          have i14 : ¬ (a + b < (-2305843009213693952)) := by omega
                          have h14 : s14F.holds (ab a b) := lt_no (by rw [v10 hr, v1 a b] <;> exact i14)
                          have i27 : ¬ (2305843009213693951 < a + b) := by omega
                          have h27 : s27F.holds (ab a b) := lt_no (by rw [v2 a b, v10 hr] <;> exact i27)
                          have i28 : (a + b = a + b) := by omega
                          have h28 : s28T.holds (ab a b) := eq_yes (by rw [v6 hr, v10 hr] <;> exact i28)
                          have i37 : ¬ (a < b) := by omega
                          have h37 : s37F.holds (ab a b) := lt_no (by rw [v0 a b, v3 a b] <;> exact i37)
                          have i16 : ¬ (b = (-1)) := by omega
                          have h16 : s16F.holds (ab a b) := eq_no (by rw [v3 a b, v11 a b] <;> exact i16)
                          have i17 : (a = a) := by omega
                          have h17 : s17T.holds (ab a b) := eq_yes (by rw [v13 hr, v0 a b] <;> exact i17)
                          have i24 : ¬ (a < 0) := by omega
                          have h24 : s24F.holds (ab a b) := lt_no (by rw [v0 a b, v4 a b] <;> exact i24)
                          have i31 : ¬ (a.tmod b + b = 0) := by omega
                          have h31 : s31F.holds (ab a b) := eq_no (by rw [v17 hr, v4 a b] <;> exact i31)
                          have i32 : (a.tmod b + b < 0) := by omega
                          have h32 : s32T.holds (ab a b) := lt_yes (by rw [v17 hr, v4 a b] <;> exact i32)
                          have i18 : ¬ (-b < b) := by omega
                          have h18 : s18F.holds (ab a b) := lt_no (by rw [v14 hr, v3 a b] <;> exact i18)
                          have i19 : (b < a.tmod b) := by omega
                          have h19 : s19T.holds (ab a b) := lt_yes (by rw [v15 hr, v9 hr] <;> exact i19)
                          have i20 : (a.tmod b < -b) := by omega
                          have h20 : s20T.holds (ab a b) := lt_yes (by rw [v9 hr, v14 hr] <;> exact i20)
                          have i38 : (b < a.tmod b + b) := by omega
                          have h38 : s38T.holds (ab a b) := lt_yes (by rw [v15 hr, v17 hr] <;> exact i38)
                          have i39 : (a.tmod b + b < -b) := by omega
                          have h39 : s39T.holds (ab a b) := lt_yes (by rw [v17 hr, v14 hr] <;> exact i39)
                          have i35 : ¬ (b = 0) := by omega
                          have h35 : s35F.holds (ab a b) := eq_no (by rw [v18 hr, v4 a b] <;> exact i35)
                          have i36 : (b = b) := by omega
                          have h36 : s36T.holds (ab a b) := eq_yes (by rw [v18 hr, v3 a b] <;> exact i36)
                          exact law_of l24 (sc h0 (sc h1 (sc h2 (sc h3 (sc h4 (sc h5 (sc h6 (sc h26 (sc h7 (sc h8 (sc h9 (sc h10 (sc h11 (sc h12 (sc h22 (sc h23 (sc h13 (sc h14 (sc h27 (sc h28 (sc h37 (sc h16 (sc h17 (sc h24 (sc h31 (sc h32 (sc h18 (sc h19 (sc h20 (sc h38 (sc h39 (sc h35 (sc h36 (snil))))))))))))))))))))))))))))))))))
                        · have h23 : s23F.holds (ab a b) := lt_no (by rw [v3 a b, v4 a b] <;> exact i23)
                          by_cases i13 : (b < a)
                          · have h13 : s13T.holds (ab a b) := lt_yes (by rw [v3 a b, v0 a b] <;> exact i13)
                            have i14 : ¬ (a + b < (-2305843009213693952)) := by omega
                            have h14 : s14F.holds (ab a b) := lt_no (by rw [v10 hr, v1 a b] <;> exact i14)
                            have i27 : ¬ (2305843009213693951 < a + b) := by omega
                            have h27 : s27F.holds (ab a b) := lt_no (by rw [v2 a b, v10 hr] <;> exact i27)
                            have i28 : (a + b = a + b) := by omega
                            have h28 : s28T.holds (ab a b) := eq_yes (by rw [v6 hr, v10 hr] <;> exact i28)
                            have i37 : ¬ (a < b) := by omega
                            have h37 : s37F.holds (ab a b) := lt_no (by rw [v0 a b, v3 a b] <;> exact i37)
                            have i16 : ¬ (b = (-1)) := by omega
                            have h16 : s16F.holds (ab a b) := eq_no (by rw [v3 a b, v11 a b] <;> exact i16)
                            have i17 : (a = a) := by omega
                            have h17 : s17T.holds (ab a b) := eq_yes (by rw [v13 hr, v0 a b] <;> exact i17)
                            have i24 : ¬ (a < 0) := by omega
                            have h24 : s24F.holds (ab a b) := lt_no (by rw [v0 a b, v4 a b] <;> exact i24)
                            have i18 : (-b < b) := by omega
                            have h18 : s18T.holds (ab a b) := lt_yes (by rw [v14 hr, v3 a b] <;> exact i18)
                            have i29 : (-b < a.tmod b) := by omega
                            have h29 : s29T.holds (ab a b) := lt_yes (by rw [v14 hr, v9 hr] <;> exact i29)
                            have i30 : (a.tmod b < b) := by omega
                            have h30 : s30T.holds (ab a b) := lt_yes (by rw [v9 hr, v3 a b] <;> exact i30)
                            have i21 : (0 = 0) := by omega
                            have h21 : s21T.holds (ab a b) := eq_yes (by rw [v16 hr, v4 a b] <;> exact i21)
                            exact law_of l30 (sc h0 (sc h1 (sc h2 (sc h3 (sc h4 (sc h5 (sc h6 (sc h26 (sc h7 (sc h8 (sc h9 (sc h10 (sc h11 (sc h12 (sc h22 (sc h23 (sc h13 (sc h14 (sc h27 (sc h28 (sc h37 (sc h16 (sc h17 (sc h24 (sc h18 (sc h29 (sc h30 (sc h21 (snil)))))))))))))))))))))))))))))
                          · have h13 : s13F.holds (ab a b) := lt_no (by rw [v3 a b, v0 a b] <;> exact i13)
                            have i14 : ¬ (a + b < (-2305843009213693952)) := by omega
                            have h14 : s14F.holds (ab a b) := lt_no (by rw [v10 hr, v1 a b] <;> exact i14)
                            have i27 : ¬ (2305843009213693951 < a + b) := by omega
                            have h27 : s27F.holds (ab a b) := lt_no (by rw [v2 a b, v10 hr] <;> exact i27)
                            have i28 : (a + b = a + b) := by omega
                            have h28 : s28T.holds (ab a b) := eq_yes (by rw [v6 hr, v10 hr] <;> exact i28)
                            have i15 : ¬ (b = a) := by omega
                            have h15 : s15F.holds (ab a b) := eq_no (by rw [v3 a b, v0 a b] <;> exact i15)
                            have i16 : ¬ (b = (-1)) := by omega
                            have h16 : s16F.holds (ab a b) := eq_no (by rw [v3 a b, v11 a b] <;> exact i16)
                            have i17 : (a = a) := by omega
                            have h17 : s17T.holds (ab a b) := eq_yes (by rw [v13 hr, v0 a b] <;> exact i17)
                            have i24 : ¬ (a < 0) := by omega
                            have h24 : s24F.holds (ab a b) := lt_no (by rw [v0 a b, v4 a b] <;> exact i24)
                            have i18 : (-b < b) := by omega
                            have h18 : s18T.holds (ab a b) := lt_yes (by rw [v14 hr, v3 a b] <;> exact i18)
                            have i29 : (-b < a.tmod b) := by omega
                            have h29 : s29T.holds (ab a b) := lt_yes (by rw [v14 hr, v9 hr] <;> exact i29)
                            have i30 : (a.tmod b < b) := by omega
                            have h30 : s30T.holds (ab a b) := lt_yes (by rw [v9 hr, v3 a b] <;> exact i30)
                            have i21 : (0 = 0) := by omega
                            have h21 : s21T.holds (ab a b) := eq_yes (by rw [v16 hr, v4 a b] <;> exact i21)
                            exact law_of l27 (sc h0 (sc h1 (sc h2 (sc h3 (sc h4 (sc h5 (sc h6 (sc h26 (sc h7 (sc h8 (sc h9 (sc h10 (sc h11 (sc h12 (sc h22 (sc h23 (sc h13 (sc h14 (sc h27 (sc h28 (sc h15 (sc h16 (sc h17 (sc h24 (sc h18 (sc h29 (sc h30 (sc h21 (snil)))))))))))))))))))))))))))))
end Go.Proofs.YtlpchjkggeiidaaGreatDoor
