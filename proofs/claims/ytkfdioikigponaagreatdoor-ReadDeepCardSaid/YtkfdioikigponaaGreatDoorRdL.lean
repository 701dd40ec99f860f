import Derived.Test.YtkfdioikigponaaGreatDoorRdK
set_option maxRecDepth 100000
set_option linter.all false
namespace Go.Ev
/- read's form where one bracket or prefix too many is open: what is told of it. -/
noncomputable section
def oK : SA := .mk false (.app 20 (.g (.s 0) (.i (.v 1) (.i (.v 2) .nil)))) (.c 1) true
def fM : SE := .bin 6 .i64 (.c 200) (.bin 7 .i64 (.c (-1)) (.v 2))
def fPR : TR := .pan [.mk (.iface 34 (.agg [.int .i64 12, .sym .i64 (.app 21 (.g (.s 0) (.i (.v 1) (.i (.v 2) .nil)))) []])) false]
def fPT : TM := .mk 37 fUs 260 fLi [oK] (some (fM, fM)) fPR 260 []
def fPU : TM := .mk 37 fUs 260 fLi [oK, .mk true (.c 200) (.v 2) false] none fPR 260 []
end
def failP (R : List Int) (p o : Int) : Int := p + ((opnS ((kz (R.drop p.toNat)).take (200 - o).toNat)).length : Int)
open Classical in
theorem o_inv' {σ : Nat → List Int} {g : GE} {a b : SE} : (SA.mk false (.app 20 (.g g (.i a (.i b .nil)))) (.c 1) true).holds σ ↔ overK (g.eval σ) (a.eval σ) (b.eval σ) := by
  show decide (phiI 20 [g.eval σ, [a.eval σ], [b.eval σ]] = 1) = true ↔ _
  rw [decide_eq_true_iff]
  exact ite1
theorem oK1 {σ : Nat → List Int} : oK.holds σ ↔ overK (σ 0) ((σ 1).headD 0) ((σ 2).headD 0) := o_inv' (g := .s 0) (a := .v 1) (b := .v 2)
theorem oK_inv {σ : Nat → List Int} : (∀ x ∈ [oK], x.holds σ) ↔ overK (σ 0) ((σ 1).headD 0) ((σ 2).headD 0) :=
  ⟨fun h => oK1.1 (h _ (List.mem_singleton.2 rfl)), fun h x hx => by rw [List.mem_singleton] at hx; subst hx; exact oK1.2 h⟩
theorem five' {k : Nat} (h : k < 5) : k = 0 ∨ k = 1 ∨ k = 2 ∨ k = 3 ∨ k = 4 := by omega
theorem opn_head (k : Nat) : ∃ x l, opn k = x :: l ∧ (x = 40 ∨ x = 91 ∨ x = 39 ∨ x = 44 ∨ x = 35) := by
  unfold opn; split
  · exact ⟨_, _, rfl, by omega⟩
  · exact ⟨_, _, rfl, by omega⟩
  · exact ⟨_, _, rfl, by omega⟩
  · exact ⟨_, _, rfl, by omega⟩
  · exact ⟨_, _, rfl, by omega⟩
/-- openings, one too many: what they begin with -/
structure FP (R : List Int) (p o : Int) (k : Nat) (K : List Nat) (x : Int) : Prop where
  hA : overK R p o
  p0 : 0 ≤ p
  o0 : 0 ≤ o
  hL : R.length ≤ 2000
  hd : o + 1 + (K.length : Int) = 201
  ho : ∀ i (h : i < (opn k).length) (y : Int), y = p + (i : Int) → R.getD y.toNat 0 = (opn k)[i]
  next : K ≠ [] → ∀ y z : Int, y = p + ((opn k).length : Int) → z = o + 1 → overK R y z
  fail : K ≠ [] → ∀ y z : Int, y = p + ((opn k).length : Int) → z = o + 1 → failP R y z = failP R p o
  fail0 : K = [] → failP R p o = p
  hn : K ≠ [] → ∀ y : Int, y = p + ((opn k).length : Int) → R.getD y.toNat 0 = x
  hx : x = 40 ∨ x = 91 ∨ x = 39 ∨ x = 44 ∨ x = 35
  hl : p + ((opn k).length : Int) ≤ (R.length : Int)
  hl1 : K ≠ [] → p + ((opn k).length : Int) + 1 ≤ (R.length : Int)
theorem over_cases {R : List Int} {p o : Int} (h : overK R p o) (ho : o ≤ 200) : ∃ k K x, k < 5 ∧ FP R p o k K x := by
  obtain ⟨K, rest, h1, h2, h3, h4, h5, h6⟩ := h
  cases K with
  | nil => simp only [List.length_nil] at h5; omega
  | cons k K =>
    have hk := h1 k (by simp)
    have hK : ∀ x ∈ K, x < 5 := fun x hx => h1 x (by simp [hx])
    have h2' : R.drop p.toNat = opn k ++ (opnS K ++ rest) := by rw [h2]; show (opn k ++ opnS K) ++ rest = _; rw [List.append_assoc]
    have hd := drop_of_drop h2'
    have hne : opn k ++ (opnS K ++ rest) ≠ [] := by obtain ⟨x, l, e, _⟩ := opn_head k; rw [e]; simp
    have hlen := len_of_drop h2' hne
    simp only [List.length_append] at hlen
    have h5' : o + ((K.length + 1 : Nat) : Int) = 201 := h5
    have hkz : kz (R.drop p.toNat) = k :: (K ++ kz rest) := by rw [h2]; exact kz_opnS h1 rest
    have hkz' : kz (R.drop (p.toNat + (opn k).length)) = K ++ kz rest := by rw [hd]; exact kz_opnS hK rest
    have ey : ∀ y : Int, y = p + ((opn k).length : Int) → y.toNat = p.toNat + (opn k).length := by rintro y rfl; omega
    obtain ⟨x, hx, hnx⟩ : ∃ x : Int, (x = 40 ∨ x = 91 ∨ x = 39 ∨ x = 44 ∨ x = 35) ∧ (K ≠ [] → R[p.toNat + (opn k).length]? = some x ∧ 1 ≤ (opnS K).length) := by
      cases K with
      | nil => exact ⟨40, .inl rfl, fun q => absurd rfl q⟩
      | cons j K =>
        obtain ⟨x, l, e, hx⟩ := opn_head j
        refine ⟨x, hx, fun _ => ?_⟩
        have hs : opnS (j :: K) = x :: (l ++ opnS K) := by show opn j ++ opnS K = _; rw [e]; rfl
        have := getE_of_drop hd (i := 0) (by rw [hs]; simp)
        rw [Nat.add_zero] at this
        refine ⟨this.trans ?_, by rw [hs]; simp⟩
        congr 1
        simp only [hs]; rfl
    refine ⟨k, K, x, hk, ⟨⟨k :: K, rest, h1, h2, h3, h4, h5, h6⟩, h3, h4, h6, by omega, ?_, ?_, ?_, ?_, ?_, hx, by omega, ?_⟩⟩
    · rintro i hi y rfl
      rw [show (p + (i : Int)).toNat = p.toNat + i by omega]; exact getD_of (getE_of_drop h2' hi)
    · rintro _ y z hy rfl
      exact ⟨K, rest, hK, by rw [ey y hy]; exact hd, by omega, by omega, by omega, h6⟩
    · rintro hne y z hy rfl
      have : 1 ≤ K.length := List.length_pos_iff.2 hne
      unfold failP
      rw [ey y hy, hkz, hkz', show (200 - o).toNat = (200 - (o + 1)).toNat + 1 by omega, List.take_succ_cons, hy]
      show _ = p + (((opn k ++ opnS _).length : Nat) : Int)
      rw [List.length_append]; omega
    · rintro rfl
      unfold failP
      simp only [List.length_nil] at h5'
      rw [show (200 - o).toNat = 0 by omega, List.take_zero]
      exact Int.add_zero p
    · rintro hne y hy
      rw [ey y hy]; exact getD_of (hnx hne).1
    · intro hne
      have := (hnx hne).2
      omega
end Go.Ev
