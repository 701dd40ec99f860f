import Derived.Test.YtkfdioikigponaaGreatDoorRdL
set_option maxRecDepth 100000
set_option linter.all false
namespace Go.Ev
/- read's form where one bracket or prefix too many is open: its runs. -/
noncomputable def A_p0 : List SA := [.mk false (.app 20 (.g (.s 0) (.i (.v 1) (.i (.v 2) .nil)))) (.c 1) true, .mk true (.v 1) (.len (.s 0)) true, .mk true (.v 1) (.c 0) false, .mk false (.rd (.s 0) (.v 1)) (.c 59) false, .mk false (.rd (.s 0) (.v 1)) (.c 9) false, .mk false (.rd (.s 0) (.v 1)) (.c 10) false, .mk false (.rd (.s 0) (.v 1)) (.c 12) false, .mk false (.rd (.s 0) (.v 1)) (.c 13) false, .mk false (.rd (.s 0) (.v 1)) (.c 32) false, .mk true (.bin 0 .i64 (.v 1) (.c 0)) (.len (.s 0)) true, .mk true (.bin 0 .i64 (.v 1) (.c 0)) (.c 0) false, .mk true (.rd (.s 0) (.bin 0 .i64 (.v 1) (.c 0))) (.c 0) false, .mk false (.rd (.s 0) (.bin 0 .i64 (.v 1) (.c 0))) (.c 40) true, .mk true (.v 2) (.c 200) false]
noncomputable def E_p0 : EqL := (.i (.v 1) (.app 21 (.g (.s 0) (.i (.v 1) (.i (.v 2) .nil)))) .nil)
theorem f_p0 [Gv] (h0 : TmFact fPT) {x : Int} {K : List Nat} (fc : FP (Gv.σ 0) ((Gv.σ 1).headD 0) ((Gv.σ 2).headD 0) 0 K x) (hK : K = []) : FactT 37 fUs 260 fLi fPR 260 [] := by
  have hA0 := fc.hA
  obtain ⟨p, hp⟩ : ∃ p, (Gv.σ 1).headD 0 = p := ⟨_, rfl⟩
  obtain ⟨o, ho⟩ : ∃ o, (Gv.σ 2).headD 0 = o := ⟨_, rfl⟩
  obtain ⟨R, hR⟩ : ∃ R, Gv.σ 0 = R := ⟨_, rfl⟩
  rw [hp, ho, hR] at fc
  have hv1 : (SE.v 1).eval Gv.σ = p := hp
  have hv2 : (SE.v 2).eval Gv.σ = o := ho
  have hvL : (SE.len (.s 0)).eval Gv.σ = (R.length : Int) := by show ((Gv.σ 0).length : Int) = _; rw [hR]
  obtain ⟨hA, hp0, ho0, hL, hd, hcs, hnext, hfail, hfail0, hn, hx, hl, hl1⟩ := fc
  have hc0 : ∀ y : Int, y = p + 0 → R.getD y.toNat 0 = 40 := hcs 0 (by decide)
  have hl : p + 1 ≤ (R.length : Int) := hl
  have hfail0 := hfail0 hK
  have hd : o + 1 = 201 := by rw [hK] at hd; simpa using hd
  have e1 : (SE.rd (.s 0) (.v 1)).eval Gv.σ = (40 : Int) := by show (Gv.σ 0).getD ((SE.v 1).eval Gv.σ).toNat 0 = _; rw [hv1, hR]; exact hc0 _ (by omega)
  have e2 : (SE.bin 0 .i64 (.v 1) (.c 0)).eval Gv.σ = (p + (0 : Int)) := by show IntKind.i64.wrap ((SE.v 1).eval Gv.σ + (SE.c 0).eval Gv.σ) = _; rw [hv1, evC (0), wrap64 (by omega)]
  have e3 : (SE.rd (.s 0) (.bin 0 .i64 (.v 1) (.c 0))).eval Gv.σ = (40 : Int) := by show (Gv.σ 0).getD ((SE.bin 0 .i64 (.v 1) (.c 0)).eval Gv.σ).toNat 0 = _; rw [e2, hR]; exact hc0 _ (by omega)
  have e4 : (SE.app 21 (.g (.s 0) (.i (.v 1) (.i (.v 2) .nil)))).eval Gv.σ = failP R p o := by show failP (Gv.σ 0) ((SE.v 1).eval Gv.σ) ((SE.v 2).eval Gv.σ) = _; rw [hv1, hv2, hR]
  refine tm_of_run (n := 2000) (A := A_p0) (T := []) (E := E_p0) (hooksTM_ok _ (one_mem h0)) noLp_ok ?_ ?_ rfl rfl (by kernel_rfl)
  · unfold A_p0; simp only [sall_cons]
    exact ⟨oK_inv.2 hA0 _ (List.mem_singleton.2 rfl),
      holdsT (by rw [hv1, hvL] <;> omega),
      holdsF (by rw [hv1, evC (0)] <;> omega),
      holdsN (by rw [e1, evC (59)] <;> omega),
      holdsN (by rw [e1, evC (9)] <;> omega),
      holdsN (by rw [e1, evC (10)] <;> omega),
      holdsN (by rw [e1, evC (12)] <;> omega),
      holdsN (by rw [e1, evC (13)] <;> omega),
      holdsN (by rw [e1, evC (32)] <;> omega),
      holdsT (by rw [e2, hvL] <;> omega),
      holdsF (by rw [e2, evC (0)] <;> omega),
      holdsF (by rw [e3, evC (0)] <;> omega),
      holdsE (by rw [e3, evC (40)] <;> omega),
      holdsF (by rw [hv2, evC (200)] <;> omega), SAll.nil⟩
  · exact ⟨by rw [hv1, e4]; exact hfail0.symm, trivial⟩
noncomputable def A_p1 : List SA := [.mk false (.app 20 (.g (.s 0) (.i (.v 1) (.i (.v 2) .nil)))) (.c 1) true, .mk true (.v 1) (.len (.s 0)) true, .mk true (.v 1) (.c 0) false, .mk false (.rd (.s 0) (.v 1)) (.c 59) false, .mk false (.rd (.s 0) (.v 1)) (.c 9) false, .mk false (.rd (.s 0) (.v 1)) (.c 10) false, .mk false (.rd (.s 0) (.v 1)) (.c 12) false, .mk false (.rd (.s 0) (.v 1)) (.c 13) false, .mk false (.rd (.s 0) (.v 1)) (.c 32) false, .mk true (.bin 0 .i64 (.v 1) (.c 0)) (.len (.s 0)) true, .mk true (.bin 0 .i64 (.v 1) (.c 0)) (.c 0) false, .mk true (.rd (.s 0) (.bin 0 .i64 (.v 1) (.c 0))) (.c 0) false, .mk false (.rd (.s 0) (.bin 0 .i64 (.v 1) (.c 0))) (.c 40) false, .mk false (.rd (.s 0) (.bin 0 .i64 (.v 1) (.c 0))) (.c 91) true, .mk true (.v 2) (.c 200) false]
noncomputable def E_p1 : EqL := (.i (.v 1) (.app 21 (.g (.s 0) (.i (.v 1) (.i (.v 2) .nil)))) .nil)
theorem f_p1 [Gv] (h0 : TmFact fPT) {x : Int} {K : List Nat} (fc : FP (Gv.σ 0) ((Gv.σ 1).headD 0) ((Gv.σ 2).headD 0) 1 K x) (hK : K = []) : FactT 37 fUs 260 fLi fPR 260 [] := by
  have hA0 := fc.hA
  obtain ⟨p, hp⟩ : ∃ p, (Gv.σ 1).headD 0 = p := ⟨_, rfl⟩
  obtain ⟨o, ho⟩ : ∃ o, (Gv.σ 2).headD 0 = o := ⟨_, rfl⟩
  obtain ⟨R, hR⟩ : ∃ R, Gv.σ 0 = R := ⟨_, rfl⟩
  rw [hp, ho, hR] at fc
  have hv1 : (SE.v 1).eval Gv.σ = p := hp
  have hv2 : (SE.v 2).eval Gv.σ = o := ho
  have hvL : (SE.len (.s 0)).eval Gv.σ = (R.length : Int) := by show ((Gv.σ 0).length : Int) = _; rw [hR]
  obtain ⟨hA, hp0, ho0, hL, hd, hcs, hnext, hfail, hfail0, hn, hx, hl, hl1⟩ := fc
  have hc0 : ∀ y : Int, y = p + 0 → R.getD y.toNat 0 = 91 := hcs 0 (by decide)
  have hl : p + 1 ≤ (R.length : Int) := hl
  have hfail0 := hfail0 hK
  have hd : o + 1 = 201 := by rw [hK] at hd; simpa using hd
  have e1 : (SE.rd (.s 0) (.v 1)).eval Gv.σ = (91 : Int) := by show (Gv.σ 0).getD ((SE.v 1).eval Gv.σ).toNat 0 = _; rw [hv1, hR]; exact hc0 _ (by omega)
  have e2 : (SE.bin 0 .i64 (.v 1) (.c 0)).eval Gv.σ = (p + (0 : Int)) := by show IntKind.i64.wrap ((SE.v 1).eval Gv.σ + (SE.c 0).eval Gv.σ) = _; rw [hv1, evC (0), wrap64 (by omega)]
  have e3 : (SE.rd (.s 0) (.bin 0 .i64 (.v 1) (.c 0))).eval Gv.σ = (91 : Int) := by show (Gv.σ 0).getD ((SE.bin 0 .i64 (.v 1) (.c 0)).eval Gv.σ).toNat 0 = _; rw [e2, hR]; exact hc0 _ (by omega)
  have e4 : (SE.app 21 (.g (.s 0) (.i (.v 1) (.i (.v 2) .nil)))).eval Gv.σ = failP R p o := by show failP (Gv.σ 0) ((SE.v 1).eval Gv.σ) ((SE.v 2).eval Gv.σ) = _; rw [hv1, hv2, hR]
  refine tm_of_run (n := 2000) (A := A_p1) (T := []) (E := E_p1) (hooksTM_ok _ (one_mem h0)) noLp_ok ?_ ?_ rfl rfl (by kernel_rfl)
  · unfold A_p1; simp only [sall_cons]
    exact ⟨oK_inv.2 hA0 _ (List.mem_singleton.2 rfl),
      holdsT (by rw [hv1, hvL] <;> omega),
      holdsF (by rw [hv1, evC (0)] <;> omega),
      holdsN (by rw [e1, evC (59)] <;> omega),
      holdsN (by rw [e1, evC (9)] <;> omega),
      holdsN (by rw [e1, evC (10)] <;> omega),
      holdsN (by rw [e1, evC (12)] <;> omega),
      holdsN (by rw [e1, evC (13)] <;> omega),
      holdsN (by rw [e1, evC (32)] <;> omega),
      holdsT (by rw [e2, hvL] <;> omega),
      holdsF (by rw [e2, evC (0)] <;> omega),
      holdsF (by rw [e3, evC (0)] <;> omega),
      holdsN (by rw [e3, evC (40)] <;> omega),
      holdsE (by rw [e3, evC (91)] <;> omega),
      holdsF (by rw [hv2, evC (200)] <;> omega), SAll.nil⟩
  · exact ⟨by rw [hv1, e4]; exact hfail0.symm, trivial⟩
noncomputable def A_p2 : List SA := [.mk false (.app 20 (.g (.s 0) (.i (.v 1) (.i (.v 2) .nil)))) (.c 1) true, .mk true (.v 1) (.len (.s 0)) true, .mk true (.v 1) (.c 0) false, .mk false (.rd (.s 0) (.v 1)) (.c 59) false, .mk false (.rd (.s 0) (.v 1)) (.c 9) false, .mk false (.rd (.s 0) (.v 1)) (.c 10) false, .mk false (.rd (.s 0) (.v 1)) (.c 12) false, .mk false (.rd (.s 0) (.v 1)) (.c 13) false, .mk false (.rd (.s 0) (.v 1)) (.c 32) false, .mk true (.bin 0 .i64 (.v 1) (.c 0)) (.len (.s 0)) true, .mk true (.bin 0 .i64 (.v 1) (.c 0)) (.c 0) false, .mk true (.rd (.s 0) (.bin 0 .i64 (.v 1) (.c 0))) (.c 0) false, .mk false (.rd (.s 0) (.bin 0 .i64 (.v 1) (.c 0))) (.c 40) false, .mk false (.rd (.s 0) (.bin 0 .i64 (.v 1) (.c 0))) (.c 91) false, .mk false (.rd (.s 0) (.bin 0 .i64 (.v 1) (.c 0))) (.c 41) false, .mk false (.rd (.s 0) (.bin 0 .i64 (.v 1) (.c 0))) (.c 93) false, .mk false (.rd (.s 0) (.bin 0 .i64 (.v 1) (.c 0))) (.c 34) false, .mk false (.rd (.s 0) (.bin 0 .i64 (.v 1) (.c 0))) (.c 63) false, .mk false (.rd (.s 0) (.bin 0 .i64 (.v 1) (.c 0))) (.c 39) true, .mk true (.v 2) (.c 200) false]
noncomputable def E_p2 : EqL := (.i (.v 1) (.app 21 (.g (.s 0) (.i (.v 1) (.i (.v 2) .nil)))) .nil)
theorem f_p2 [Gv] (h0 : TmFact fPT) {x : Int} {K : List Nat} (fc : FP (Gv.σ 0) ((Gv.σ 1).headD 0) ((Gv.σ 2).headD 0) 2 K x) (hK : K = []) : FactT 37 fUs 260 fLi fPR 260 [] := by
  have hA0 := fc.hA
  obtain ⟨p, hp⟩ : ∃ p, (Gv.σ 1).headD 0 = p := ⟨_, rfl⟩
  obtain ⟨o, ho⟩ : ∃ o, (Gv.σ 2).headD 0 = o := ⟨_, rfl⟩
  obtain ⟨R, hR⟩ : ∃ R, Gv.σ 0 = R := ⟨_, rfl⟩
  rw [hp, ho, hR] at fc
  have hv1 : (SE.v 1).eval Gv.σ = p := hp
  have hv2 : (SE.v 2).eval Gv.σ = o := ho
  have hvL : (SE.len (.s 0)).eval Gv.σ = (R.length : Int) := by show ((Gv.σ 0).length : Int) = _; rw [hR]
  obtain ⟨hA, hp0, ho0, hL, hd, hcs, hnext, hfail, hfail0, hn, hx, hl, hl1⟩ := fc
  have hc0 : ∀ y : Int, y = p + 0 → R.getD y.toNat 0 = 39 := hcs 0 (by decide)
  have hl : p + 1 ≤ (R.length : Int) := hl
  have hfail0 := hfail0 hK
  have hd : o + 1 = 201 := by rw [hK] at hd; simpa using hd
  have e1 : (SE.rd (.s 0) (.v 1)).eval Gv.σ = (39 : Int) := by show (Gv.σ 0).getD ((SE.v 1).eval Gv.σ).toNat 0 = _; rw [hv1, hR]; exact hc0 _ (by omega)
  have e2 : (SE.bin 0 .i64 (.v 1) (.c 0)).eval Gv.σ = (p + (0 : Int)) := by show IntKind.i64.wrap ((SE.v 1).eval Gv.σ + (SE.c 0).eval Gv.σ) = _; rw [hv1, evC (0), wrap64 (by omega)]
  have e3 : (SE.rd (.s 0) (.bin 0 .i64 (.v 1) (.c 0))).eval Gv.σ = (39 : Int) := by show (Gv.σ 0).getD ((SE.bin 0 .i64 (.v 1) (.c 0)).eval Gv.σ).toNat 0 = _; rw [e2, hR]; exact hc0 _ (by omega)
  have e4 : (SE.app 21 (.g (.s 0) (.i (.v 1) (.i (.v 2) .nil)))).eval Gv.σ = failP R p o := by show failP (Gv.σ 0) ((SE.v 1).eval Gv.σ) ((SE.v 2).eval Gv.σ) = _; rw [hv1, hv2, hR]
  refine tm_of_run (n := 2000) (A := A_p2) (T := []) (E := E_p2) (hooksTM_ok _ (one_mem h0)) noLp_ok ?_ ?_ rfl rfl (by kernel_rfl)
  · unfold A_p2; simp only [sall_cons]
    exact ⟨oK_inv.2 hA0 _ (List.mem_singleton.2 rfl),
      holdsT (by rw [hv1, hvL] <;> omega),
      holdsF (by rw [hv1, evC (0)] <;> omega),
      holdsN (by rw [e1, evC (59)] <;> omega),
      holdsN (by rw [e1, evC (9)] <;> omega),
      holdsN (by rw [e1, evC (10)] <;> omega),
      holdsN (by rw [e1, evC (12)] <;> omega),
      holdsN (by rw [e1, evC (13)] <;> omega),
      holdsN (by rw [e1, evC (32)] <;> omega),
      holdsT (by rw [e2, hvL] <;> omega),
      holdsF (by rw [e2, evC (0)] <;> omega),
      holdsF (by rw [e3, evC (0)] <;> omega),
      holdsN (by rw [e3, evC (40)] <;> omega),
      holdsN (by rw [e3, evC (91)] <;> omega),
      holdsN (by rw [e3, evC (41)] <;> omega),
      holdsN (by rw [e3, evC (93)] <;> omega),
      holdsN (by rw [e3, evC (34)] <;> omega),
      holdsN (by rw [e3, evC (63)] <;> omega),
      holdsE (by rw [e3, evC (39)] <;> omega),
      holdsF (by rw [hv2, evC (200)] <;> omega), SAll.nil⟩
  · exact ⟨by rw [hv1, e4]; exact hfail0.symm, trivial⟩
noncomputable def A_p3 : List SA := [.mk false (.app 20 (.g (.s 0) (.i (.v 1) (.i (.v 2) .nil)))) (.c 1) true, .mk true (.v 1) (.len (.s 0)) true, .mk true (.v 1) (.c 0) false, .mk false (.rd (.s 0) (.v 1)) (.c 59) false, .mk false (.rd (.s 0) (.v 1)) (.c 9) false, .mk false (.rd (.s 0) (.v 1)) (.c 10) false, .mk false (.rd (.s 0) (.v 1)) (.c 12) false, .mk false (.rd (.s 0) (.v 1)) (.c 13) false, .mk false (.rd (.s 0) (.v 1)) (.c 32) false, .mk true (.bin 0 .i64 (.v 1) (.c 0)) (.len (.s 0)) true, .mk true (.bin 0 .i64 (.v 1) (.c 0)) (.c 0) false, .mk true (.rd (.s 0) (.bin 0 .i64 (.v 1) (.c 0))) (.c 0) false, .mk false (.rd (.s 0) (.bin 0 .i64 (.v 1) (.c 0))) (.c 40) false, .mk false (.rd (.s 0) (.bin 0 .i64 (.v 1) (.c 0))) (.c 91) false, .mk false (.rd (.s 0) (.bin 0 .i64 (.v 1) (.c 0))) (.c 41) false, .mk false (.rd (.s 0) (.bin 0 .i64 (.v 1) (.c 0))) (.c 93) false, .mk false (.rd (.s 0) (.bin 0 .i64 (.v 1) (.c 0))) (.c 34) false, .mk false (.rd (.s 0) (.bin 0 .i64 (.v 1) (.c 0))) (.c 63) false, .mk false (.rd (.s 0) (.bin 0 .i64 (.v 1) (.c 0))) (.c 39) false, .mk false (.rd (.s 0) (.bin 0 .i64 (.v 1) (.c 0))) (.c 96) false, .mk false (.rd (.s 0) (.bin 0 .i64 (.v 1) (.c 0))) (.c 44) true, .mk true (.bin 0 .i64 (.v 1) (.c 1)) (.len (.s 0)) true, .mk true (.bin 0 .i64 (.v 1) (.c 1)) (.c 0) false, .mk false (.rd (.s 0) (.bin 0 .i64 (.v 1) (.c 1))) (.c 64) true, .mk true (.v 2) (.c 200) false]
noncomputable def E_p3 : EqL := (.i (.v 1) (.app 21 (.g (.s 0) (.i (.v 1) (.i (.v 2) .nil)))) .nil)
theorem f_p3 [Gv] (h0 : TmFact fPT) {x : Int} {K : List Nat} (fc : FP (Gv.σ 0) ((Gv.σ 1).headD 0) ((Gv.σ 2).headD 0) 3 K x) (hK : K = []) : FactT 37 fUs 260 fLi fPR 260 [] := by
  have hA0 := fc.hA
  obtain ⟨p, hp⟩ : ∃ p, (Gv.σ 1).headD 0 = p := ⟨_, rfl⟩
  obtain ⟨o, ho⟩ : ∃ o, (Gv.σ 2).headD 0 = o := ⟨_, rfl⟩
  obtain ⟨R, hR⟩ : ∃ R, Gv.σ 0 = R := ⟨_, rfl⟩
  rw [hp, ho, hR] at fc
  have hv1 : (SE.v 1).eval Gv.σ = p := hp
  have hv2 : (SE.v 2).eval Gv.σ = o := ho
  have hvL : (SE.len (.s 0)).eval Gv.σ = (R.length : Int) := by show ((Gv.σ 0).length : Int) = _; rw [hR]
  obtain ⟨hA, hp0, ho0, hL, hd, hcs, hnext, hfail, hfail0, hn, hx, hl, hl1⟩ := fc
  have hc0 : ∀ y : Int, y = p + 0 → R.getD y.toNat 0 = 44 := hcs 0 (by decide)
  have hc1 : ∀ y : Int, y = p + 1 → R.getD y.toNat 0 = 64 := hcs 1 (by decide)
  have hl : p + 2 ≤ (R.length : Int) := hl
  have hfail0 := hfail0 hK
  have hd : o + 1 = 201 := by rw [hK] at hd; simpa using hd
  have e1 : (SE.rd (.s 0) (.v 1)).eval Gv.σ = (44 : Int) := by show (Gv.σ 0).getD ((SE.v 1).eval Gv.σ).toNat 0 = _; rw [hv1, hR]; exact hc0 _ (by omega)
  have e2 : (SE.bin 0 .i64 (.v 1) (.c 0)).eval Gv.σ = (p + (0 : Int)) := by show IntKind.i64.wrap ((SE.v 1).eval Gv.σ + (SE.c 0).eval Gv.σ) = _; rw [hv1, evC (0), wrap64 (by omega)]
  have e3 : (SE.rd (.s 0) (.bin 0 .i64 (.v 1) (.c 0))).eval Gv.σ = (44 : Int) := by show (Gv.σ 0).getD ((SE.bin 0 .i64 (.v 1) (.c 0)).eval Gv.σ).toNat 0 = _; rw [e2, hR]; exact hc0 _ (by omega)
  have e4 : (SE.bin 0 .i64 (.v 1) (.c 1)).eval Gv.σ = (p + (1 : Int)) := by show IntKind.i64.wrap ((SE.v 1).eval Gv.σ + (SE.c 1).eval Gv.σ) = _; rw [hv1, evC (1), wrap64 (by omega)]
  have e5 : (SE.rd (.s 0) (.bin 0 .i64 (.v 1) (.c 1))).eval Gv.σ = (64 : Int) := by show (Gv.σ 0).getD ((SE.bin 0 .i64 (.v 1) (.c 1)).eval Gv.σ).toNat 0 = _; rw [e4, hR]; exact hc1 _ (by omega)
  have e6 : (SE.app 21 (.g (.s 0) (.i (.v 1) (.i (.v 2) .nil)))).eval Gv.σ = failP R p o := by show failP (Gv.σ 0) ((SE.v 1).eval Gv.σ) ((SE.v 2).eval Gv.σ) = _; rw [hv1, hv2, hR]
  refine tm_of_run (n := 2000) (A := A_p3) (T := []) (E := E_p3) (hooksTM_ok _ (one_mem h0)) noLp_ok ?_ ?_ rfl rfl (by kernel_rfl)
  · unfold A_p3; simp only [sall_cons]
    exact ⟨oK_inv.2 hA0 _ (List.mem_singleton.2 rfl),
      holdsT (by rw [hv1, hvL] <;> omega),
      holdsF (by rw [hv1, evC (0)] <;> omega),
      holdsN (by rw [e1, evC (59)] <;> omega),
      holdsN (by rw [e1, evC (9)] <;> omega),
      holdsN (by rw [e1, evC (10)] <;> omega),
      holdsN (by rw [e1, evC (12)] <;> omega),
      holdsN (by rw [e1, evC (13)] <;> omega),
      holdsN (by rw [e1, evC (32)] <;> omega),
      holdsT (by rw [e2, hvL] <;> omega),
      holdsF (by rw [e2, evC (0)] <;> omega),
      holdsF (by rw [e3, evC (0)] <;> omega),
      holdsN (by rw [e3, evC (40)] <;> omega),
      holdsN (by rw [e3, evC (91)] <;> omega),
      holdsN (by rw [e3, evC (41)] <;> omega),
      holdsN (by rw [e3, evC (93)] <;> omega),
      holdsN (by rw [e3, evC (34)] <;> omega),
      holdsN (by rw [e3, evC (63)] <;> omega),
      holdsN (by rw [e3, evC (39)] <;> omega),
      holdsN (by rw [e3, evC (96)] <;> omega),
      holdsE (by rw [e3, evC (44)] <;> omega),
      holdsT (by rw [e4, hvL] <;> omega),
      holdsF (by rw [e4, evC (0)] <;> omega),
      holdsE (by rw [e5, evC (64)] <;> omega),
      holdsF (by rw [hv2, evC (200)] <;> omega), SAll.nil⟩
  · exact ⟨by rw [hv1, e6]; exact hfail0.symm, trivial⟩
noncomputable def A_p4 : List SA := [.mk false (.app 20 (.g (.s 0) (.i (.v 1) (.i (.v 2) .nil)))) (.c 1) true, .mk true (.v 1) (.len (.s 0)) true, .mk true (.v 1) (.c 0) false, .mk false (.rd (.s 0) (.v 1)) (.c 59) false, .mk false (.rd (.s 0) (.v 1)) (.c 9) false, .mk false (.rd (.s 0) (.v 1)) (.c 10) false, .mk false (.rd (.s 0) (.v 1)) (.c 12) false, .mk false (.rd (.s 0) (.v 1)) (.c 13) false, .mk false (.rd (.s 0) (.v 1)) (.c 32) false, .mk true (.bin 0 .i64 (.v 1) (.c 0)) (.len (.s 0)) true, .mk true (.bin 0 .i64 (.v 1) (.c 0)) (.c 0) false, .mk true (.rd (.s 0) (.bin 0 .i64 (.v 1) (.c 0))) (.c 0) false, .mk false (.rd (.s 0) (.bin 0 .i64 (.v 1) (.c 0))) (.c 40) false, .mk false (.rd (.s 0) (.bin 0 .i64 (.v 1) (.c 0))) (.c 91) false, .mk false (.rd (.s 0) (.bin 0 .i64 (.v 1) (.c 0))) (.c 41) false, .mk false (.rd (.s 0) (.bin 0 .i64 (.v 1) (.c 0))) (.c 93) false, .mk false (.rd (.s 0) (.bin 0 .i64 (.v 1) (.c 0))) (.c 34) false, .mk false (.rd (.s 0) (.bin 0 .i64 (.v 1) (.c 0))) (.c 63) false, .mk false (.rd (.s 0) (.bin 0 .i64 (.v 1) (.c 0))) (.c 39) false, .mk false (.rd (.s 0) (.bin 0 .i64 (.v 1) (.c 0))) (.c 96) false, .mk false (.rd (.s 0) (.bin 0 .i64 (.v 1) (.c 0))) (.c 44) false, .mk false (.rd (.s 0) (.bin 0 .i64 (.v 1) (.c 0))) (.c 35) true, .mk true (.bin 0 .i64 (.v 1) (.c 1)) (.len (.s 0)) true, .mk true (.bin 0 .i64 (.v 1) (.c 1)) (.c 0) false, .mk false (.rd (.s 0) (.bin 0 .i64 (.v 1) (.c 1))) (.c 39) true, .mk true (.v 2) (.c 200) false]
noncomputable def E_p4 : EqL := (.i (.v 1) (.app 21 (.g (.s 0) (.i (.v 1) (.i (.v 2) .nil)))) .nil)
theorem f_p4 [Gv] (h0 : TmFact fPT) {x : Int} {K : List Nat} (fc : FP (Gv.σ 0) ((Gv.σ 1).headD 0) ((Gv.σ 2).headD 0) 4 K x) (hK : K = []) : FactT 37 fUs 260 fLi fPR 260 [] := by
  have hA0 := fc.hA
  obtain ⟨p, hp⟩ : ∃ p, (Gv.σ 1).headD 0 = p := ⟨_, rfl⟩
  obtain ⟨o, ho⟩ : ∃ o, (Gv.σ 2).headD 0 = o := ⟨_, rfl⟩
  obtain ⟨R, hR⟩ : ∃ R, Gv.σ 0 = R := ⟨_, rfl⟩
  rw [hp, ho, hR] at fc
  have hv1 : (SE.v 1).eval Gv.σ = p := hp
  have hv2 : (SE.v 2).eval Gv.σ = o := ho
  have hvL : (SE.len (.s 0)).eval Gv.σ = (R.length : Int) := by show ((Gv.σ 0).length : Int) = _; rw [hR]
  obtain ⟨hA, hp0, ho0, hL, hd, hcs, hnext, hfail, hfail0, hn, hx, hl, hl1⟩ := fc
  have hc0 : ∀ y : Int, y = p + 0 → R.getD y.toNat 0 = 35 := hcs 0 (by decide)
  have hc1 : ∀ y : Int, y = p + 1 → R.getD y.toNat 0 = 39 := hcs 1 (by decide)
  have hl : p + 2 ≤ (R.length : Int) := hl
  have hfail0 := hfail0 hK
  have hd : o + 1 = 201 := by rw [hK] at hd; simpa using hd
  have e1 : (SE.rd (.s 0) (.v 1)).eval Gv.σ = (35 : Int) := by show (Gv.σ 0).getD ((SE.v 1).eval Gv.σ).toNat 0 = _; rw [hv1, hR]; exact hc0 _ (by omega)
  have e2 : (SE.bin 0 .i64 (.v 1) (.c 0)).eval Gv.σ = (p + (0 : Int)) := by show IntKind.i64.wrap ((SE.v 1).eval Gv.σ + (SE.c 0).eval Gv.σ) = _; rw [hv1, evC (0), wrap64 (by omega)]
  have e3 : (SE.rd (.s 0) (.bin 0 .i64 (.v 1) (.c 0))).eval Gv.σ = (35 : Int) := by show (Gv.σ 0).getD ((SE.bin 0 .i64 (.v 1) (.c 0)).eval Gv.σ).toNat 0 = _; rw [e2, hR]; exact hc0 _ (by omega)
  have e4 : (SE.bin 0 .i64 (.v 1) (.c 1)).eval Gv.σ = (p + (1 : Int)) := by show IntKind.i64.wrap ((SE.v 1).eval Gv.σ + (SE.c 1).eval Gv.σ) = _; rw [hv1, evC (1), wrap64 (by omega)]
  have e5 : (SE.rd (.s 0) (.bin 0 .i64 (.v 1) (.c 1))).eval Gv.σ = (39 : Int) := by show (Gv.σ 0).getD ((SE.bin 0 .i64 (.v 1) (.c 1)).eval Gv.σ).toNat 0 = _; rw [e4, hR]; exact hc1 _ (by omega)
  have e6 : (SE.app 21 (.g (.s 0) (.i (.v 1) (.i (.v 2) .nil)))).eval Gv.σ = failP R p o := by show failP (Gv.σ 0) ((SE.v 1).eval Gv.σ) ((SE.v 2).eval Gv.σ) = _; rw [hv1, hv2, hR]
  refine tm_of_run (n := 2000) (A := A_p4) (T := []) (E := E_p4) (hooksTM_ok _ (one_mem h0)) noLp_ok ?_ ?_ rfl rfl (by kernel_rfl)
  · unfold A_p4; simp only [sall_cons]
    exact ⟨oK_inv.2 hA0 _ (List.mem_singleton.2 rfl),
      holdsT (by rw [hv1, hvL] <;> omega),
      holdsF (by rw [hv1, evC (0)] <;> omega),
      holdsN (by rw [e1, evC (59)] <;> omega),
      holdsN (by rw [e1, evC (9)] <;> omega),
      holdsN (by rw [e1, evC (10)] <;> omega),
      holdsN (by rw [e1, evC (12)] <;> omega),
      holdsN (by rw [e1, evC (13)] <;> omega),
      holdsN (by rw [e1, evC (32)] <;> omega),
      holdsT (by rw [e2, hvL] <;> omega),
      holdsF (by rw [e2, evC (0)] <;> omega),
      holdsF (by rw [e3, evC (0)] <;> omega),
      holdsN (by rw [e3, evC (40)] <;> omega),
      holdsN (by rw [e3, evC (91)] <;> omega),
      holdsN (by rw [e3, evC (41)] <;> omega),
      holdsN (by rw [e3, evC (93)] <;> omega),
      holdsN (by rw [e3, evC (34)] <;> omega),
      holdsN (by rw [e3, evC (63)] <;> omega),
      holdsN (by rw [e3, evC (39)] <;> omega),
      holdsN (by rw [e3, evC (96)] <;> omega),
      holdsN (by rw [e3, evC (44)] <;> omega),
      holdsE (by rw [e3, evC (35)] <;> omega),
      holdsT (by rw [e4, hvL] <;> omega),
      holdsF (by rw [e4, evC (0)] <;> omega),
      holdsE (by rw [e5, evC (39)] <;> omega),
      holdsF (by rw [hv2, evC (200)] <;> omega), SAll.nil⟩
  · exact ⟨by rw [hv1, e6]; exact hfail0.symm, trivial⟩
noncomputable def A_q0 : List SA := [.mk false (.app 20 (.g (.s 0) (.i (.v 1) (.i (.v 2) .nil)))) (.c 1) true, .mk true (.v 1) (.len (.s 0)) true, .mk true (.v 1) (.c 0) false, .mk false (.rd (.s 0) (.v 1)) (.c 59) false, .mk false (.rd (.s 0) (.v 1)) (.c 9) false, .mk false (.rd (.s 0) (.v 1)) (.c 10) false, .mk false (.rd (.s 0) (.v 1)) (.c 12) false, .mk false (.rd (.s 0) (.v 1)) (.c 13) false, .mk false (.rd (.s 0) (.v 1)) (.c 32) false, .mk true (.bin 0 .i64 (.v 1) (.c 0)) (.len (.s 0)) true, .mk true (.bin 0 .i64 (.v 1) (.c 0)) (.c 0) false, .mk true (.rd (.s 0) (.bin 0 .i64 (.v 1) (.c 0))) (.c 0) false, .mk false (.rd (.s 0) (.bin 0 .i64 (.v 1) (.c 0))) (.c 40) true, .mk true (.v 2) (.c 200) true, .mk true (.bin 0 .i64 (.v 1) (.c 1)) (.len (.s 0)) true, .mk true (.bin 0 .i64 (.v 1) (.c 1)) (.c 0) false, .mk false (.rd (.s 0) (.bin 0 .i64 (.v 1) (.c 1))) (.c 59) false, .mk false (.rd (.s 0) (.bin 0 .i64 (.v 1) (.c 1))) (.c 9) false, .mk false (.rd (.s 0) (.bin 0 .i64 (.v 1) (.c 1))) (.c 10) false, .mk false (.rd (.s 0) (.bin 0 .i64 (.v 1) (.c 1))) (.c 12) false, .mk false (.rd (.s 0) (.bin 0 .i64 (.v 1) (.c 1))) (.c 13) false, .mk false (.rd (.s 0) (.bin 0 .i64 (.v 1) (.c 1))) (.c 32) false, .mk true (.bin 0 .i64 (.bin 0 .i64 (.v 1) (.c 1)) (.c 0)) (.len (.s 0)) true, .mk true (.bin 0 .i64 (.bin 0 .i64 (.v 1) (.c 1)) (.c 0)) (.c 0) false, .mk true (.rd (.s 0) (.bin 0 .i64 (.bin 0 .i64 (.v 1) (.c 1)) (.c 0))) (.c 0) false, .mk false (.rd (.s 0) (.bin 0 .i64 (.bin 0 .i64 (.v 1) (.c 1)) (.c 0))) (.c 41) false, .mk false (.rd (.s 0) (.bin 0 .i64 (.bin 0 .i64 (.v 1) (.c 1)) (.c 0))) (.c 46) false, .mk false (.app 20 (.g (.s 0) (.i (.bin 0 .i64 (.v 1) (.c 1)) (.i (.bin 0 .i64 (.v 2) (.c 1)) .nil)))) (.c 1) true, .mk true (.bin 6 .i64 (.c 200) (.bin 7 .i64 (.c (-1)) (.bin 0 .i64 (.v 2) (.c 1)))) (.bin 6 .i64 (.c 200) (.bin 7 .i64 (.c (-1)) (.v 2))) true, .mk true (.bin 6 .i64 (.c 200) (.bin 7 .i64 (.c (-1)) (.bin 0 .i64 (.v 2) (.c 1)))) (.c 0) false]
noncomputable def E_q0 : EqL := (.i (.app 21 (.g (.s 0) (.i (.bin 0 .i64 (.v 1) (.c 1)) (.i (.bin 0 .i64 (.v 2) (.c 1)) .nil)))) (.app 21 (.g (.s 0) (.i (.v 1) (.i (.v 2) .nil)))) .nil)
theorem f_q0 [Gv] (h0 : TmFact fPT) {x : Int} {K : List Nat} (fc : FP (Gv.σ 0) ((Gv.σ 1).headD 0) ((Gv.σ 2).headD 0) 0 K x) (hK : K ≠ []) : FactT 37 fUs 260 fLi fPR 260 [] := by
  have hA0 := fc.hA
  obtain ⟨p, hp⟩ : ∃ p, (Gv.σ 1).headD 0 = p := ⟨_, rfl⟩
  obtain ⟨o, ho⟩ : ∃ o, (Gv.σ 2).headD 0 = o := ⟨_, rfl⟩
  obtain ⟨R, hR⟩ : ∃ R, Gv.σ 0 = R := ⟨_, rfl⟩
  rw [hp, ho, hR] at fc
  have hv1 : (SE.v 1).eval Gv.σ = p := hp
  have hv2 : (SE.v 2).eval Gv.σ = o := ho
  have hvL : (SE.len (.s 0)).eval Gv.σ = (R.length : Int) := by show ((Gv.σ 0).length : Int) = _; rw [hR]
  obtain ⟨hA, hp0, ho0, hL, hd, hcs, hnext, hfail, hfail0, hn, hx, hl, hl1⟩ := fc
  have hc0 : ∀ y : Int, y = p + 0 → R.getD y.toNat 0 = 40 := hcs 0 (by decide)
  have hl : p + 1 ≤ (R.length : Int) := hl
  have hn : ∀ y : Int, y = p + 1 → R.getD y.toNat 0 = x := hn hK
  have hnext : ∀ y z : Int, y = p + 1 → z = o + 1 → overK R y z := hnext hK
  have hfail : ∀ y z : Int, y = p + 1 → z = o + 1 → failP R y z = failP R p o := hfail hK
  have hl1 : p + 1 + 1 ≤ (R.length : Int) := hl1 hK
  have hK1 : 1 ≤ K.length := List.length_pos_iff.2 hK
  have e1 : (SE.rd (.s 0) (.v 1)).eval Gv.σ = (40 : Int) := by show (Gv.σ 0).getD ((SE.v 1).eval Gv.σ).toNat 0 = _; rw [hv1, hR]; exact hc0 _ (by omega)
  have e2 : (SE.bin 0 .i64 (.v 1) (.c 0)).eval Gv.σ = (p + (0 : Int)) := by show IntKind.i64.wrap ((SE.v 1).eval Gv.σ + (SE.c 0).eval Gv.σ) = _; rw [hv1, evC (0), wrap64 (by omega)]
  have e3 : (SE.rd (.s 0) (.bin 0 .i64 (.v 1) (.c 0))).eval Gv.σ = (40 : Int) := by show (Gv.σ 0).getD ((SE.bin 0 .i64 (.v 1) (.c 0)).eval Gv.σ).toNat 0 = _; rw [e2, hR]; exact hc0 _ (by omega)
  have e4 : (SE.bin 0 .i64 (.v 1) (.c 1)).eval Gv.σ = (p + (1 : Int)) := by show IntKind.i64.wrap ((SE.v 1).eval Gv.σ + (SE.c 1).eval Gv.σ) = _; rw [hv1, evC (1), wrap64 (by omega)]
  have e5 : (SE.rd (.s 0) (.bin 0 .i64 (.v 1) (.c 1))).eval Gv.σ = x := by show (Gv.σ 0).getD ((SE.bin 0 .i64 (.v 1) (.c 1)).eval Gv.σ).toNat 0 = _; rw [e4, hR]; exact hn _ (by omega)
  have e6 : (SE.bin 0 .i64 (.bin 0 .i64 (.v 1) (.c 1)) (.c 0)).eval Gv.σ = ((p + (1 : Int)) + (0 : Int)) := by show IntKind.i64.wrap ((SE.bin 0 .i64 (.v 1) (.c 1)).eval Gv.σ + (SE.c 0).eval Gv.σ) = _; rw [e4, evC (0), wrap64 (by omega)]
  have e7 : (SE.rd (.s 0) (.bin 0 .i64 (.bin 0 .i64 (.v 1) (.c 1)) (.c 0))).eval Gv.σ = x := by show (Gv.σ 0).getD ((SE.bin 0 .i64 (.bin 0 .i64 (.v 1) (.c 1)) (.c 0)).eval Gv.σ).toNat 0 = _; rw [e6, hR]; exact hn _ (by omega)
  have e8 : (SE.bin 0 .i64 (.v 2) (.c 1)).eval Gv.σ = (o + (1 : Int)) := by show IntKind.i64.wrap ((SE.v 2).eval Gv.σ + (SE.c 1).eval Gv.σ) = _; rw [hv2, evC (1), wrap64 (by omega)]
  have e10 : (SE.bin 7 .i64 (.c (-1)) (.bin 0 .i64 (.v 2) (.c 1))).eval Gv.σ = ((-1 : Int) * (o + (1 : Int))) := by show (SE.c (-1)).eval Gv.σ * (SE.bin 0 .i64 (.v 2) (.c 1)).eval Gv.σ = _; rw [evC (-1), e8]
  have e9 : (SE.bin 6 .i64 (.c 200) (.bin 7 .i64 (.c (-1)) (.bin 0 .i64 (.v 2) (.c 1)))).eval Gv.σ = ((200 : Int) + ((-1 : Int) * (o + (1 : Int)))) := by show (SE.c 200).eval Gv.σ + (SE.bin 7 .i64 (.c (-1)) (.bin 0 .i64 (.v 2) (.c 1))).eval Gv.σ = _; rw [evC (200), e10]
  have e12 : (SE.bin 7 .i64 (.c (-1)) (.v 2)).eval Gv.σ = ((-1 : Int) * o) := by show (SE.c (-1)).eval Gv.σ * (SE.v 2).eval Gv.σ = _; rw [evC (-1), hv2]
  have e11 : (SE.bin 6 .i64 (.c 200) (.bin 7 .i64 (.c (-1)) (.v 2))).eval Gv.σ = ((200 : Int) + ((-1 : Int) * o)) := by show (SE.c 200).eval Gv.σ + (SE.bin 7 .i64 (.c (-1)) (.v 2)).eval Gv.σ = _; rw [evC (200), e12]
  have e13 : (SE.app 21 (.g (.s 0) (.i (.bin 0 .i64 (.v 1) (.c 1)) (.i (.bin 0 .i64 (.v 2) (.c 1)) .nil)))).eval Gv.σ = failP R (p + (1 : Int)) (o + (1 : Int)) := by show failP (Gv.σ 0) ((SE.bin 0 .i64 (.v 1) (.c 1)).eval Gv.σ) ((SE.bin 0 .i64 (.v 2) (.c 1)).eval Gv.σ) = _; rw [e4, e8, hR]
  have e14 : (SE.app 21 (.g (.s 0) (.i (.v 1) (.i (.v 2) .nil)))).eval Gv.σ = failP R p o := by show failP (Gv.σ 0) ((SE.v 1).eval Gv.σ) ((SE.v 2).eval Gv.σ) = _; rw [hv1, hv2, hR]
  refine tm_of_run (n := 2000) (A := A_q0) (T := []) (E := E_q0) (hooksTM_ok _ (one_mem h0)) noLp_ok ?_ ?_ rfl rfl (by kernel_rfl)
  · unfold A_q0; simp only [sall_cons]
    exact ⟨oK_inv.2 hA0 _ (List.mem_singleton.2 rfl),
      holdsT (by rw [hv1, hvL] <;> omega),
      holdsF (by rw [hv1, evC (0)] <;> omega),
      holdsN (by rw [e1, evC (59)] <;> omega),
      holdsN (by rw [e1, evC (9)] <;> omega),
      holdsN (by rw [e1, evC (10)] <;> omega),
      holdsN (by rw [e1, evC (12)] <;> omega),
      holdsN (by rw [e1, evC (13)] <;> omega),
      holdsN (by rw [e1, evC (32)] <;> omega),
      holdsT (by rw [e2, hvL] <;> omega),
      holdsF (by rw [e2, evC (0)] <;> omega),
      holdsF (by rw [e3, evC (0)] <;> omega),
      holdsE (by rw [e3, evC (40)] <;> omega),
      holdsT (by rw [hv2, evC (200)] <;> omega),
      holdsT (by rw [e4, hvL] <;> omega),
      holdsF (by rw [e4, evC (0)] <;> omega),
      holdsN (by rw [e5, evC (59)] <;> omega),
      holdsN (by rw [e5, evC (9)] <;> omega),
      holdsN (by rw [e5, evC (10)] <;> omega),
      holdsN (by rw [e5, evC (12)] <;> omega),
      holdsN (by rw [e5, evC (13)] <;> omega),
      holdsN (by rw [e5, evC (32)] <;> omega),
      holdsT (by rw [e6, hvL] <;> omega),
      holdsF (by rw [e6, evC (0)] <;> omega),
      holdsF (by rw [e7, evC (0)] <;> omega),
      holdsN (by rw [e7, evC (41)] <;> omega),
      holdsN (by rw [e7, evC (46)] <;> omega),
      o_inv'.2 (by rw [e4, e8]; show overK (Gv.σ 0) _ _; rw [hR]; exact hnext _ _ (by omega) (by omega)),
      holdsT (by rw [e9, e11] <;> omega),
      holdsF (by rw [e9, evC (0)] <;> omega), SAll.nil⟩
  · exact ⟨by rw [e13, e14]; exact hfail _ _ (by omega) (by omega), trivial⟩
noncomputable def A_q1 : List SA := [.mk false (.app 20 (.g (.s 0) (.i (.v 1) (.i (.v 2) .nil)))) (.c 1) true, .mk true (.v 1) (.len (.s 0)) true, .mk true (.v 1) (.c 0) false, .mk false (.rd (.s 0) (.v 1)) (.c 59) false, .mk false (.rd (.s 0) (.v 1)) (.c 9) false, .mk false (.rd (.s 0) (.v 1)) (.c 10) false, .mk false (.rd (.s 0) (.v 1)) (.c 12) false, .mk false (.rd (.s 0) (.v 1)) (.c 13) false, .mk false (.rd (.s 0) (.v 1)) (.c 32) false, .mk true (.bin 0 .i64 (.v 1) (.c 0)) (.len (.s 0)) true, .mk true (.bin 0 .i64 (.v 1) (.c 0)) (.c 0) false, .mk true (.rd (.s 0) (.bin 0 .i64 (.v 1) (.c 0))) (.c 0) false, .mk false (.rd (.s 0) (.bin 0 .i64 (.v 1) (.c 0))) (.c 40) false, .mk false (.rd (.s 0) (.bin 0 .i64 (.v 1) (.c 0))) (.c 91) true, .mk true (.v 2) (.c 200) true, .mk true (.bin 0 .i64 (.v 1) (.c 1)) (.len (.s 0)) true, .mk true (.bin 0 .i64 (.v 1) (.c 1)) (.c 0) false, .mk false (.rd (.s 0) (.bin 0 .i64 (.v 1) (.c 1))) (.c 59) false, .mk false (.rd (.s 0) (.bin 0 .i64 (.v 1) (.c 1))) (.c 9) false, .mk false (.rd (.s 0) (.bin 0 .i64 (.v 1) (.c 1))) (.c 10) false, .mk false (.rd (.s 0) (.bin 0 .i64 (.v 1) (.c 1))) (.c 12) false, .mk false (.rd (.s 0) (.bin 0 .i64 (.v 1) (.c 1))) (.c 13) false, .mk false (.rd (.s 0) (.bin 0 .i64 (.v 1) (.c 1))) (.c 32) false, .mk true (.bin 0 .i64 (.bin 0 .i64 (.v 1) (.c 1)) (.c 0)) (.len (.s 0)) true, .mk true (.bin 0 .i64 (.bin 0 .i64 (.v 1) (.c 1)) (.c 0)) (.c 0) false, .mk false (.rd (.s 0) (.bin 0 .i64 (.bin 0 .i64 (.v 1) (.c 1)) (.c 0))) (.c 93) false, .mk false (.app 20 (.g (.s 0) (.i (.bin 0 .i64 (.v 1) (.c 1)) (.i (.bin 0 .i64 (.v 2) (.c 1)) .nil)))) (.c 1) true, .mk true (.bin 6 .i64 (.c 200) (.bin 7 .i64 (.c (-1)) (.bin 0 .i64 (.v 2) (.c 1)))) (.bin 6 .i64 (.c 200) (.bin 7 .i64 (.c (-1)) (.v 2))) true, .mk true (.bin 6 .i64 (.c 200) (.bin 7 .i64 (.c (-1)) (.bin 0 .i64 (.v 2) (.c 1)))) (.c 0) false]
noncomputable def E_q1 : EqL := (.i (.app 21 (.g (.s 0) (.i (.bin 0 .i64 (.v 1) (.c 1)) (.i (.bin 0 .i64 (.v 2) (.c 1)) .nil)))) (.app 21 (.g (.s 0) (.i (.v 1) (.i (.v 2) .nil)))) .nil)
theorem f_q1 [Gv] (h0 : TmFact fPT) {x : Int} {K : List Nat} (fc : FP (Gv.σ 0) ((Gv.σ 1).headD 0) ((Gv.σ 2).headD 0) 1 K x) (hK : K ≠ []) : FactT 37 fUs 260 fLi fPR 260 [] := by
  have hA0 := fc.hA
  obtain ⟨p, hp⟩ : ∃ p, (Gv.σ 1).headD 0 = p := ⟨_, rfl⟩
  obtain ⟨o, ho⟩ : ∃ o, (Gv.σ 2).headD 0 = o := ⟨_, rfl⟩
  obtain ⟨R, hR⟩ : ∃ R, Gv.σ 0 = R := ⟨_, rfl⟩
  rw [hp, ho, hR] at fc
  have hv1 : (SE.v 1).eval Gv.σ = p := hp
  have hv2 : (SE.v 2).eval Gv.σ = o := ho
  have hvL : (SE.len (.s 0)).eval Gv.σ = (R.length : Int) := by show ((Gv.σ 0).length : Int) = _; rw [hR]
  obtain ⟨hA, hp0, ho0, hL, hd, hcs, hnext, hfail, hfail0, hn, hx, hl, hl1⟩ := fc
  have hc0 : ∀ y : Int, y = p + 0 → R.getD y.toNat 0 = 91 := hcs 0 (by decide)
  have hl : p + 1 ≤ (R.length : Int) := hl
  have hn : ∀ y : Int, y = p + 1 → R.getD y.toNat 0 = x := hn hK
  have hnext : ∀ y z : Int, y = p + 1 → z = o + 1 → overK R y z := hnext hK
  have hfail : ∀ y z : Int, y = p + 1 → z = o + 1 → failP R y z = failP R p o := hfail hK
  have hl1 : p + 1 + 1 ≤ (R.length : Int) := hl1 hK
  have hK1 : 1 ≤ K.length := List.length_pos_iff.2 hK
  have e1 : (SE.rd (.s 0) (.v 1)).eval Gv.σ = (91 : Int) := by show (Gv.σ 0).getD ((SE.v 1).eval Gv.σ).toNat 0 = _; rw [hv1, hR]; exact hc0 _ (by omega)
  have e2 : (SE.bin 0 .i64 (.v 1) (.c 0)).eval Gv.σ = (p + (0 : Int)) := by show IntKind.i64.wrap ((SE.v 1).eval Gv.σ + (SE.c 0).eval Gv.σ) = _; rw [hv1, evC (0), wrap64 (by omega)]
  have e3 : (SE.rd (.s 0) (.bin 0 .i64 (.v 1) (.c 0))).eval Gv.σ = (91 : Int) := by show (Gv.σ 0).getD ((SE.bin 0 .i64 (.v 1) (.c 0)).eval Gv.σ).toNat 0 = _; rw [e2, hR]; exact hc0 _ (by omega)
  have e4 : (SE.bin 0 .i64 (.v 1) (.c 1)).eval Gv.σ = (p + (1 : Int)) := by show IntKind.i64.wrap ((SE.v 1).eval Gv.σ + (SE.c 1).eval Gv.σ) = _; rw [hv1, evC (1), wrap64 (by omega)]
  have e5 : (SE.rd (.s 0) (.bin 0 .i64 (.v 1) (.c 1))).eval Gv.σ = x := by show (Gv.σ 0).getD ((SE.bin 0 .i64 (.v 1) (.c 1)).eval Gv.σ).toNat 0 = _; rw [e4, hR]; exact hn _ (by omega)
  have e6 : (SE.bin 0 .i64 (.bin 0 .i64 (.v 1) (.c 1)) (.c 0)).eval Gv.σ = ((p + (1 : Int)) + (0 : Int)) := by show IntKind.i64.wrap ((SE.bin 0 .i64 (.v 1) (.c 1)).eval Gv.σ + (SE.c 0).eval Gv.σ) = _; rw [e4, evC (0), wrap64 (by omega)]
  have e7 : (SE.rd (.s 0) (.bin 0 .i64 (.bin 0 .i64 (.v 1) (.c 1)) (.c 0))).eval Gv.σ = x := by show (Gv.σ 0).getD ((SE.bin 0 .i64 (.bin 0 .i64 (.v 1) (.c 1)) (.c 0)).eval Gv.σ).toNat 0 = _; rw [e6, hR]; exact hn _ (by omega)
  have e8 : (SE.bin 0 .i64 (.v 2) (.c 1)).eval Gv.σ = (o + (1 : Int)) := by show IntKind.i64.wrap ((SE.v 2).eval Gv.σ + (SE.c 1).eval Gv.σ) = _; rw [hv2, evC (1), wrap64 (by omega)]
  have e10 : (SE.bin 7 .i64 (.c (-1)) (.bin 0 .i64 (.v 2) (.c 1))).eval Gv.σ = ((-1 : Int) * (o + (1 : Int))) := by show (SE.c (-1)).eval Gv.σ * (SE.bin 0 .i64 (.v 2) (.c 1)).eval Gv.σ = _; rw [evC (-1), e8]
  have e9 : (SE.bin 6 .i64 (.c 200) (.bin 7 .i64 (.c (-1)) (.bin 0 .i64 (.v 2) (.c 1)))).eval Gv.σ = ((200 : Int) + ((-1 : Int) * (o + (1 : Int)))) := by show (SE.c 200).eval Gv.σ + (SE.bin 7 .i64 (.c (-1)) (.bin 0 .i64 (.v 2) (.c 1))).eval Gv.σ = _; rw [evC (200), e10]
  have e12 : (SE.bin 7 .i64 (.c (-1)) (.v 2)).eval Gv.σ = ((-1 : Int) * o) := by show (SE.c (-1)).eval Gv.σ * (SE.v 2).eval Gv.σ = _; rw [evC (-1), hv2]
  have e11 : (SE.bin 6 .i64 (.c 200) (.bin 7 .i64 (.c (-1)) (.v 2))).eval Gv.σ = ((200 : Int) + ((-1 : Int) * o)) := by show (SE.c 200).eval Gv.σ + (SE.bin 7 .i64 (.c (-1)) (.v 2)).eval Gv.σ = _; rw [evC (200), e12]
  have e13 : (SE.app 21 (.g (.s 0) (.i (.bin 0 .i64 (.v 1) (.c 1)) (.i (.bin 0 .i64 (.v 2) (.c 1)) .nil)))).eval Gv.σ = failP R (p + (1 : Int)) (o + (1 : Int)) := by show failP (Gv.σ 0) ((SE.bin 0 .i64 (.v 1) (.c 1)).eval Gv.σ) ((SE.bin 0 .i64 (.v 2) (.c 1)).eval Gv.σ) = _; rw [e4, e8, hR]
  have e14 : (SE.app 21 (.g (.s 0) (.i (.v 1) (.i (.v 2) .nil)))).eval Gv.σ = failP R p o := by show failP (Gv.σ 0) ((SE.v 1).eval Gv.σ) ((SE.v 2).eval Gv.σ) = _; rw [hv1, hv2, hR]
  refine tm_of_run (n := 2000) (A := A_q1) (T := []) (E := E_q1) (hooksTM_ok _ (one_mem h0)) noLp_ok ?_ ?_ rfl rfl (by kernel_rfl)
  · unfold A_q1; simp only [sall_cons]
    exact ⟨oK_inv.2 hA0 _ (List.mem_singleton.2 rfl),
      holdsT (by rw [hv1, hvL] <;> omega),
      holdsF (by rw [hv1, evC (0)] <;> omega),
      holdsN (by rw [e1, evC (59)] <;> omega),
      holdsN (by rw [e1, evC (9)] <;> omega),
      holdsN (by rw [e1, evC (10)] <;> omega),
      holdsN (by rw [e1, evC (12)] <;> omega),
      holdsN (by rw [e1, evC (13)] <;> omega),
      holdsN (by rw [e1, evC (32)] <;> omega),
      holdsT (by rw [e2, hvL] <;> omega),
      holdsF (by rw [e2, evC (0)] <;> omega),
      holdsF (by rw [e3, evC (0)] <;> omega),
      holdsN (by rw [e3, evC (40)] <;> omega),
      holdsE (by rw [e3, evC (91)] <;> omega),
      holdsT (by rw [hv2, evC (200)] <;> omega),
      holdsT (by rw [e4, hvL] <;> omega),
      holdsF (by rw [e4, evC (0)] <;> omega),
      holdsN (by rw [e5, evC (59)] <;> omega),
      holdsN (by rw [e5, evC (9)] <;> omega),
      holdsN (by rw [e5, evC (10)] <;> omega),
      holdsN (by rw [e5, evC (12)] <;> omega),
      holdsN (by rw [e5, evC (13)] <;> omega),
      holdsN (by rw [e5, evC (32)] <;> omega),
      holdsT (by rw [e6, hvL] <;> omega),
      holdsF (by rw [e6, evC (0)] <;> omega),
      holdsN (by rw [e7, evC (93)] <;> omega),
      o_inv'.2 (by rw [e4, e8]; show overK (Gv.σ 0) _ _; rw [hR]; exact hnext _ _ (by omega) (by omega)),
      holdsT (by rw [e9, e11] <;> omega),
      holdsF (by rw [e9, evC (0)] <;> omega), SAll.nil⟩
  · exact ⟨by rw [e13, e14]; exact hfail _ _ (by omega) (by omega), trivial⟩
noncomputable def A_q2 : List SA := [.mk false (.app 20 (.g (.s 0) (.i (.v 1) (.i (.v 2) .nil)))) (.c 1) true, .mk true (.v 1) (.len (.s 0)) true, .mk true (.v 1) (.c 0) false, .mk false (.rd (.s 0) (.v 1)) (.c 59) false, .mk false (.rd (.s 0) (.v 1)) (.c 9) false, .mk false (.rd (.s 0) (.v 1)) (.c 10) false, .mk false (.rd (.s 0) (.v 1)) (.c 12) false, .mk false (.rd (.s 0) (.v 1)) (.c 13) false, .mk false (.rd (.s 0) (.v 1)) (.c 32) false, .mk true (.bin 0 .i64 (.v 1) (.c 0)) (.len (.s 0)) true, .mk true (.bin 0 .i64 (.v 1) (.c 0)) (.c 0) false, .mk true (.rd (.s 0) (.bin 0 .i64 (.v 1) (.c 0))) (.c 0) false, .mk false (.rd (.s 0) (.bin 0 .i64 (.v 1) (.c 0))) (.c 40) false, .mk false (.rd (.s 0) (.bin 0 .i64 (.v 1) (.c 0))) (.c 91) false, .mk false (.rd (.s 0) (.bin 0 .i64 (.v 1) (.c 0))) (.c 41) false, .mk false (.rd (.s 0) (.bin 0 .i64 (.v 1) (.c 0))) (.c 93) false, .mk false (.rd (.s 0) (.bin 0 .i64 (.v 1) (.c 0))) (.c 34) false, .mk false (.rd (.s 0) (.bin 0 .i64 (.v 1) (.c 0))) (.c 63) false, .mk false (.rd (.s 0) (.bin 0 .i64 (.v 1) (.c 0))) (.c 39) true, .mk true (.v 2) (.c 200) true, .mk false (.app 20 (.g (.s 0) (.i (.bin 0 .i64 (.v 1) (.c 1)) (.i (.bin 0 .i64 (.v 2) (.c 1)) .nil)))) (.c 1) true, .mk true (.bin 6 .i64 (.c 200) (.bin 7 .i64 (.c (-1)) (.bin 0 .i64 (.v 2) (.c 1)))) (.bin 6 .i64 (.c 200) (.bin 7 .i64 (.c (-1)) (.v 2))) true, .mk true (.bin 6 .i64 (.c 200) (.bin 7 .i64 (.c (-1)) (.bin 0 .i64 (.v 2) (.c 1)))) (.c 0) false]
noncomputable def E_q2 : EqL := (.i (.app 21 (.g (.s 0) (.i (.bin 0 .i64 (.v 1) (.c 1)) (.i (.bin 0 .i64 (.v 2) (.c 1)) .nil)))) (.app 21 (.g (.s 0) (.i (.v 1) (.i (.v 2) .nil)))) .nil)
theorem f_q2 [Gv] (h0 : TmFact fPT) {x : Int} {K : List Nat} (fc : FP (Gv.σ 0) ((Gv.σ 1).headD 0) ((Gv.σ 2).headD 0) 2 K x) (hK : K ≠ []) : FactT 37 fUs 260 fLi fPR 260 [] := by
  have hA0 := fc.hA
  obtain ⟨p, hp⟩ : ∃ p, (Gv.σ 1).headD 0 = p := ⟨_, rfl⟩
  obtain ⟨o, ho⟩ : ∃ o, (Gv.σ 2).headD 0 = o := ⟨_, rfl⟩
  obtain ⟨R, hR⟩ : ∃ R, Gv.σ 0 = R := ⟨_, rfl⟩
  rw [hp, ho, hR] at fc
  have hv1 : (SE.v 1).eval Gv.σ = p := hp
  have hv2 : (SE.v 2).eval Gv.σ = o := ho
  have hvL : (SE.len (.s 0)).eval Gv.σ = (R.length : Int) := by show ((Gv.σ 0).length : Int) = _; rw [hR]
  obtain ⟨hA, hp0, ho0, hL, hd, hcs, hnext, hfail, hfail0, hn, hx, hl, hl1⟩ := fc
  have hc0 : ∀ y : Int, y = p + 0 → R.getD y.toNat 0 = 39 := hcs 0 (by decide)
  have hl : p + 1 ≤ (R.length : Int) := hl
  have hn : ∀ y : Int, y = p + 1 → R.getD y.toNat 0 = x := hn hK
  have hnext : ∀ y z : Int, y = p + 1 → z = o + 1 → overK R y z := hnext hK
  have hfail : ∀ y z : Int, y = p + 1 → z = o + 1 → failP R y z = failP R p o := hfail hK
  have hl1 : p + 1 + 1 ≤ (R.length : Int) := hl1 hK
  have hK1 : 1 ≤ K.length := List.length_pos_iff.2 hK
  have e1 : (SE.rd (.s 0) (.v 1)).eval Gv.σ = (39 : Int) := by show (Gv.σ 0).getD ((SE.v 1).eval Gv.σ).toNat 0 = _; rw [hv1, hR]; exact hc0 _ (by omega)
  have e2 : (SE.bin 0 .i64 (.v 1) (.c 0)).eval Gv.σ = (p + (0 : Int)) := by show IntKind.i64.wrap ((SE.v 1).eval Gv.σ + (SE.c 0).eval Gv.σ) = _; rw [hv1, evC (0), wrap64 (by omega)]
  have e3 : (SE.rd (.s 0) (.bin 0 .i64 (.v 1) (.c 0))).eval Gv.σ = (39 : Int) := by show (Gv.σ 0).getD ((SE.bin 0 .i64 (.v 1) (.c 0)).eval Gv.σ).toNat 0 = _; rw [e2, hR]; exact hc0 _ (by omega)
  have e4 : (SE.bin 0 .i64 (.v 1) (.c 1)).eval Gv.σ = (p + (1 : Int)) := by show IntKind.i64.wrap ((SE.v 1).eval Gv.σ + (SE.c 1).eval Gv.σ) = _; rw [hv1, evC (1), wrap64 (by omega)]
  have e5 : (SE.bin 0 .i64 (.v 2) (.c 1)).eval Gv.σ = (o + (1 : Int)) := by show IntKind.i64.wrap ((SE.v 2).eval Gv.σ + (SE.c 1).eval Gv.σ) = _; rw [hv2, evC (1), wrap64 (by omega)]
  have e7 : (SE.bin 7 .i64 (.c (-1)) (.bin 0 .i64 (.v 2) (.c 1))).eval Gv.σ = ((-1 : Int) * (o + (1 : Int))) := by show (SE.c (-1)).eval Gv.σ * (SE.bin 0 .i64 (.v 2) (.c 1)).eval Gv.σ = _; rw [evC (-1), e5]
  have e6 : (SE.bin 6 .i64 (.c 200) (.bin 7 .i64 (.c (-1)) (.bin 0 .i64 (.v 2) (.c 1)))).eval Gv.σ = ((200 : Int) + ((-1 : Int) * (o + (1 : Int)))) := by show (SE.c 200).eval Gv.σ + (SE.bin 7 .i64 (.c (-1)) (.bin 0 .i64 (.v 2) (.c 1))).eval Gv.σ = _; rw [evC (200), e7]
  have e9 : (SE.bin 7 .i64 (.c (-1)) (.v 2)).eval Gv.σ = ((-1 : Int) * o) := by show (SE.c (-1)).eval Gv.σ * (SE.v 2).eval Gv.σ = _; rw [evC (-1), hv2]
  have e8 : (SE.bin 6 .i64 (.c 200) (.bin 7 .i64 (.c (-1)) (.v 2))).eval Gv.σ = ((200 : Int) + ((-1 : Int) * o)) := by show (SE.c 200).eval Gv.σ + (SE.bin 7 .i64 (.c (-1)) (.v 2)).eval Gv.σ = _; rw [evC (200), e9]
  have e10 : (SE.app 21 (.g (.s 0) (.i (.bin 0 .i64 (.v 1) (.c 1)) (.i (.bin 0 .i64 (.v 2) (.c 1)) .nil)))).eval Gv.σ = failP R (p + (1 : Int)) (o + (1 : Int)) := by show failP (Gv.σ 0) ((SE.bin 0 .i64 (.v 1) (.c 1)).eval Gv.σ) ((SE.bin 0 .i64 (.v 2) (.c 1)).eval Gv.σ) = _; rw [e4, e5, hR]
  have e11 : (SE.app 21 (.g (.s 0) (.i (.v 1) (.i (.v 2) .nil)))).eval Gv.σ = failP R p o := by show failP (Gv.σ 0) ((SE.v 1).eval Gv.σ) ((SE.v 2).eval Gv.σ) = _; rw [hv1, hv2, hR]
  refine tm_of_run (n := 2000) (A := A_q2) (T := []) (E := E_q2) (hooksTM_ok _ (one_mem h0)) noLp_ok ?_ ?_ rfl rfl (by kernel_rfl)
  · unfold A_q2; simp only [sall_cons]
    exact ⟨oK_inv.2 hA0 _ (List.mem_singleton.2 rfl),
      holdsT (by rw [hv1, hvL] <;> omega),
      holdsF (by rw [hv1, evC (0)] <;> omega),
      holdsN (by rw [e1, evC (59)] <;> omega),
      holdsN (by rw [e1, evC (9)] <;> omega),
      holdsN (by rw [e1, evC (10)] <;> omega),
      holdsN (by rw [e1, evC (12)] <;> omega),
      holdsN (by rw [e1, evC (13)] <;> omega),
      holdsN (by rw [e1, evC (32)] <;> omega),
      holdsT (by rw [e2, hvL] <;> omega),
      holdsF (by rw [e2, evC (0)] <;> omega),
      holdsF (by rw [e3, evC (0)] <;> omega),
      holdsN (by rw [e3, evC (40)] <;> omega),
      holdsN (by rw [e3, evC (91)] <;> omega),
      holdsN (by rw [e3, evC (41)] <;> omega),
      holdsN (by rw [e3, evC (93)] <;> omega),
      holdsN (by rw [e3, evC (34)] <;> omega),
      holdsN (by rw [e3, evC (63)] <;> omega),
      holdsE (by rw [e3, evC (39)] <;> omega),
      holdsT (by rw [hv2, evC (200)] <;> omega),
      o_inv'.2 (by rw [e4, e5]; show overK (Gv.σ 0) _ _; rw [hR]; exact hnext _ _ (by omega) (by omega)),
      holdsT (by rw [e6, e8] <;> omega),
      holdsF (by rw [e6, evC (0)] <;> omega), SAll.nil⟩
  · exact ⟨by rw [e10, e11]; exact hfail _ _ (by omega) (by omega), trivial⟩
noncomputable def A_q3 : List SA := [.mk false (.app 20 (.g (.s 0) (.i (.v 1) (.i (.v 2) .nil)))) (.c 1) true, .mk true (.v 1) (.len (.s 0)) true, .mk true (.v 1) (.c 0) false, .mk false (.rd (.s 0) (.v 1)) (.c 59) false, .mk false (.rd (.s 0) (.v 1)) (.c 9) false, .mk false (.rd (.s 0) (.v 1)) (.c 10) false, .mk false (.rd (.s 0) (.v 1)) (.c 12) false, .mk false (.rd (.s 0) (.v 1)) (.c 13) false, .mk false (.rd (.s 0) (.v 1)) (.c 32) false, .mk true (.bin 0 .i64 (.v 1) (.c 0)) (.len (.s 0)) true, .mk true (.bin 0 .i64 (.v 1) (.c 0)) (.c 0) false, .mk true (.rd (.s 0) (.bin 0 .i64 (.v 1) (.c 0))) (.c 0) false, .mk false (.rd (.s 0) (.bin 0 .i64 (.v 1) (.c 0))) (.c 40) false, .mk false (.rd (.s 0) (.bin 0 .i64 (.v 1) (.c 0))) (.c 91) false, .mk false (.rd (.s 0) (.bin 0 .i64 (.v 1) (.c 0))) (.c 41) false, .mk false (.rd (.s 0) (.bin 0 .i64 (.v 1) (.c 0))) (.c 93) false, .mk false (.rd (.s 0) (.bin 0 .i64 (.v 1) (.c 0))) (.c 34) false, .mk false (.rd (.s 0) (.bin 0 .i64 (.v 1) (.c 0))) (.c 63) false, .mk false (.rd (.s 0) (.bin 0 .i64 (.v 1) (.c 0))) (.c 39) false, .mk false (.rd (.s 0) (.bin 0 .i64 (.v 1) (.c 0))) (.c 96) false, .mk false (.rd (.s 0) (.bin 0 .i64 (.v 1) (.c 0))) (.c 44) true, .mk true (.bin 0 .i64 (.v 1) (.c 1)) (.len (.s 0)) true, .mk true (.bin 0 .i64 (.v 1) (.c 1)) (.c 0) false, .mk false (.rd (.s 0) (.bin 0 .i64 (.v 1) (.c 1))) (.c 64) true, .mk true (.v 2) (.c 200) true, .mk false (.app 20 (.g (.s 0) (.i (.bin 0 .i64 (.v 1) (.c 2)) (.i (.bin 0 .i64 (.v 2) (.c 1)) .nil)))) (.c 1) true, .mk true (.bin 6 .i64 (.c 200) (.bin 7 .i64 (.c (-1)) (.bin 0 .i64 (.v 2) (.c 1)))) (.bin 6 .i64 (.c 200) (.bin 7 .i64 (.c (-1)) (.v 2))) true, .mk true (.bin 6 .i64 (.c 200) (.bin 7 .i64 (.c (-1)) (.bin 0 .i64 (.v 2) (.c 1)))) (.c 0) false]
noncomputable def E_q3 : EqL := (.i (.app 21 (.g (.s 0) (.i (.bin 0 .i64 (.v 1) (.c 2)) (.i (.bin 0 .i64 (.v 2) (.c 1)) .nil)))) (.app 21 (.g (.s 0) (.i (.v 1) (.i (.v 2) .nil)))) .nil)
theorem f_q3 [Gv] (h0 : TmFact fPT) {x : Int} {K : List Nat} (fc : FP (Gv.σ 0) ((Gv.σ 1).headD 0) ((Gv.σ 2).headD 0) 3 K x) (hK : K ≠ []) : FactT 37 fUs 260 fLi fPR 260 [] := by
  have hA0 := fc.hA
  obtain ⟨p, hp⟩ : ∃ p, (Gv.σ 1).headD 0 = p := ⟨_, rfl⟩
  obtain ⟨o, ho⟩ : ∃ o, (Gv.σ 2).headD 0 = o := ⟨_, rfl⟩
  obtain ⟨R, hR⟩ : ∃ R, Gv.σ 0 = R := ⟨_, rfl⟩
  rw [hp, ho, hR] at fc
  have hv1 : (SE.v 1).eval Gv.σ = p := hp
  have hv2 : (SE.v 2).eval Gv.σ = o := ho
  have hvL : (SE.len (.s 0)).eval Gv.σ = (R.length : Int) := by show ((Gv.σ 0).length : Int) = _; rw [hR]
  obtain ⟨hA, hp0, ho0, hL, hd, hcs, hnext, hfail, hfail0, hn, hx, hl, hl1⟩ := fc
  have hc0 : ∀ y : Int, y = p + 0 → R.getD y.toNat 0 = 44 := hcs 0 (by decide)
  have hc1 : ∀ y : Int, y = p + 1 → R.getD y.toNat 0 = 64 := hcs 1 (by decide)
  have hl : p + 2 ≤ (R.length : Int) := hl
  have hn : ∀ y : Int, y = p + 2 → R.getD y.toNat 0 = x := hn hK
  have hnext : ∀ y z : Int, y = p + 2 → z = o + 1 → overK R y z := hnext hK
  have hfail : ∀ y z : Int, y = p + 2 → z = o + 1 → failP R y z = failP R p o := hfail hK
  have hl1 : p + 2 + 1 ≤ (R.length : Int) := hl1 hK
  have hK1 : 1 ≤ K.length := List.length_pos_iff.2 hK
  have e1 : (SE.rd (.s 0) (.v 1)).eval Gv.σ = (44 : Int) := by show (Gv.σ 0).getD ((SE.v 1).eval Gv.σ).toNat 0 = _; rw [hv1, hR]; exact hc0 _ (by omega)
  have e2 : (SE.bin 0 .i64 (.v 1) (.c 0)).eval Gv.σ = (p + (0 : Int)) := by show IntKind.i64.wrap ((SE.v 1).eval Gv.σ + (SE.c 0).eval Gv.σ) = _; rw [hv1, evC (0), wrap64 (by omega)]
  have e3 : (SE.rd (.s 0) (.bin 0 .i64 (.v 1) (.c 0))).eval Gv.σ = (44 : Int) := by show (Gv.σ 0).getD ((SE.bin 0 .i64 (.v 1) (.c 0)).eval Gv.σ).toNat 0 = _; rw [e2, hR]; exact hc0 _ (by omega)
  have e4 : (SE.bin 0 .i64 (.v 1) (.c 1)).eval Gv.σ = (p + (1 : Int)) := by show IntKind.i64.wrap ((SE.v 1).eval Gv.σ + (SE.c 1).eval Gv.σ) = _; rw [hv1, evC (1), wrap64 (by omega)]
  have e5 : (SE.rd (.s 0) (.bin 0 .i64 (.v 1) (.c 1))).eval Gv.σ = (64 : Int) := by show (Gv.σ 0).getD ((SE.bin 0 .i64 (.v 1) (.c 1)).eval Gv.σ).toNat 0 = _; rw [e4, hR]; exact hc1 _ (by omega)
  have e6 : (SE.bin 0 .i64 (.v 1) (.c 2)).eval Gv.σ = (p + (2 : Int)) := by show IntKind.i64.wrap ((SE.v 1).eval Gv.σ + (SE.c 2).eval Gv.σ) = _; rw [hv1, evC (2), wrap64 (by omega)]
  have e7 : (SE.bin 0 .i64 (.v 2) (.c 1)).eval Gv.σ = (o + (1 : Int)) := by show IntKind.i64.wrap ((SE.v 2).eval Gv.σ + (SE.c 1).eval Gv.σ) = _; rw [hv2, evC (1), wrap64 (by omega)]
  have e9 : (SE.bin 7 .i64 (.c (-1)) (.bin 0 .i64 (.v 2) (.c 1))).eval Gv.σ = ((-1 : Int) * (o + (1 : Int))) := by show (SE.c (-1)).eval Gv.σ * (SE.bin 0 .i64 (.v 2) (.c 1)).eval Gv.σ = _; rw [evC (-1), e7]
  have e8 : (SE.bin 6 .i64 (.c 200) (.bin 7 .i64 (.c (-1)) (.bin 0 .i64 (.v 2) (.c 1)))).eval Gv.σ = ((200 : Int) + ((-1 : Int) * (o + (1 : Int)))) := by show (SE.c 200).eval Gv.σ + (SE.bin 7 .i64 (.c (-1)) (.bin 0 .i64 (.v 2) (.c 1))).eval Gv.σ = _; rw [evC (200), e9]
  have e11 : (SE.bin 7 .i64 (.c (-1)) (.v 2)).eval Gv.σ = ((-1 : Int) * o) := by show (SE.c (-1)).eval Gv.σ * (SE.v 2).eval Gv.σ = _; rw [evC (-1), hv2]
  have e10 : (SE.bin 6 .i64 (.c 200) (.bin 7 .i64 (.c (-1)) (.v 2))).eval Gv.σ = ((200 : Int) + ((-1 : Int) * o)) := by show (SE.c 200).eval Gv.σ + (SE.bin 7 .i64 (.c (-1)) (.v 2)).eval Gv.σ = _; rw [evC (200), e11]
  have e12 : (SE.app 21 (.g (.s 0) (.i (.bin 0 .i64 (.v 1) (.c 2)) (.i (.bin 0 .i64 (.v 2) (.c 1)) .nil)))).eval Gv.σ = failP R (p + (2 : Int)) (o + (1 : Int)) := by show failP (Gv.σ 0) ((SE.bin 0 .i64 (.v 1) (.c 2)).eval Gv.σ) ((SE.bin 0 .i64 (.v 2) (.c 1)).eval Gv.σ) = _; rw [e6, e7, hR]
  have e13 : (SE.app 21 (.g (.s 0) (.i (.v 1) (.i (.v 2) .nil)))).eval Gv.σ = failP R p o := by show failP (Gv.σ 0) ((SE.v 1).eval Gv.σ) ((SE.v 2).eval Gv.σ) = _; rw [hv1, hv2, hR]
  refine tm_of_run (n := 2000) (A := A_q3) (T := []) (E := E_q3) (hooksTM_ok _ (one_mem h0)) noLp_ok ?_ ?_ rfl rfl (by kernel_rfl)
  · unfold A_q3; simp only [sall_cons]
    exact ⟨oK_inv.2 hA0 _ (List.mem_singleton.2 rfl),
      holdsT (by rw [hv1, hvL] <;> omega),
      holdsF (by rw [hv1, evC (0)] <;> omega),
      holdsN (by rw [e1, evC (59)] <;> omega),
      holdsN (by rw [e1, evC (9)] <;> omega),
      holdsN (by rw [e1, evC (10)] <;> omega),
      holdsN (by rw [e1, evC (12)] <;> omega),
      holdsN (by rw [e1, evC (13)] <;> omega),
      holdsN (by rw [e1, evC (32)] <;> omega),
      holdsT (by rw [e2, hvL] <;> omega),
      holdsF (by rw [e2, evC (0)] <;> omega),
      holdsF (by rw [e3, evC (0)] <;> omega),
      holdsN (by rw [e3, evC (40)] <;> omega),
      holdsN (by rw [e3, evC (91)] <;> omega),
      holdsN (by rw [e3, evC (41)] <;> omega),
      holdsN (by rw [e3, evC (93)] <;> omega),
      holdsN (by rw [e3, evC (34)] <;> omega),
      holdsN (by rw [e3, evC (63)] <;> omega),
      holdsN (by rw [e3, evC (39)] <;> omega),
      holdsN (by rw [e3, evC (96)] <;> omega),
      holdsE (by rw [e3, evC (44)] <;> omega),
      holdsT (by rw [e4, hvL] <;> omega),
      holdsF (by rw [e4, evC (0)] <;> omega),
      holdsE (by rw [e5, evC (64)] <;> omega),
      holdsT (by rw [hv2, evC (200)] <;> omega),
      o_inv'.2 (by rw [e6, e7]; show overK (Gv.σ 0) _ _; rw [hR]; exact hnext _ _ (by omega) (by omega)),
      holdsT (by rw [e8, e10] <;> omega),
      holdsF (by rw [e8, evC (0)] <;> omega), SAll.nil⟩
  · exact ⟨by rw [e12, e13]; exact hfail _ _ (by omega) (by omega), trivial⟩
noncomputable def A_q4 : List SA := [.mk false (.app 20 (.g (.s 0) (.i (.v 1) (.i (.v 2) .nil)))) (.c 1) true, .mk true (.v 1) (.len (.s 0)) true, .mk true (.v 1) (.c 0) false, .mk false (.rd (.s 0) (.v 1)) (.c 59) false, .mk false (.rd (.s 0) (.v 1)) (.c 9) false, .mk false (.rd (.s 0) (.v 1)) (.c 10) false, .mk false (.rd (.s 0) (.v 1)) (.c 12) false, .mk false (.rd (.s 0) (.v 1)) (.c 13) false, .mk false (.rd (.s 0) (.v 1)) (.c 32) false, .mk true (.bin 0 .i64 (.v 1) (.c 0)) (.len (.s 0)) true, .mk true (.bin 0 .i64 (.v 1) (.c 0)) (.c 0) false, .mk true (.rd (.s 0) (.bin 0 .i64 (.v 1) (.c 0))) (.c 0) false, .mk false (.rd (.s 0) (.bin 0 .i64 (.v 1) (.c 0))) (.c 40) false, .mk false (.rd (.s 0) (.bin 0 .i64 (.v 1) (.c 0))) (.c 91) false, .mk false (.rd (.s 0) (.bin 0 .i64 (.v 1) (.c 0))) (.c 41) false, .mk false (.rd (.s 0) (.bin 0 .i64 (.v 1) (.c 0))) (.c 93) false, .mk false (.rd (.s 0) (.bin 0 .i64 (.v 1) (.c 0))) (.c 34) false, .mk false (.rd (.s 0) (.bin 0 .i64 (.v 1) (.c 0))) (.c 63) false, .mk false (.rd (.s 0) (.bin 0 .i64 (.v 1) (.c 0))) (.c 39) false, .mk false (.rd (.s 0) (.bin 0 .i64 (.v 1) (.c 0))) (.c 96) false, .mk false (.rd (.s 0) (.bin 0 .i64 (.v 1) (.c 0))) (.c 44) false, .mk false (.rd (.s 0) (.bin 0 .i64 (.v 1) (.c 0))) (.c 35) true, .mk true (.bin 0 .i64 (.v 1) (.c 1)) (.len (.s 0)) true, .mk true (.bin 0 .i64 (.v 1) (.c 1)) (.c 0) false, .mk false (.rd (.s 0) (.bin 0 .i64 (.v 1) (.c 1))) (.c 39) true, .mk true (.v 2) (.c 200) true, .mk false (.app 20 (.g (.s 0) (.i (.bin 0 .i64 (.v 1) (.c 2)) (.i (.bin 0 .i64 (.v 2) (.c 1)) .nil)))) (.c 1) true, .mk true (.bin 6 .i64 (.c 200) (.bin 7 .i64 (.c (-1)) (.bin 0 .i64 (.v 2) (.c 1)))) (.bin 6 .i64 (.c 200) (.bin 7 .i64 (.c (-1)) (.v 2))) true, .mk true (.bin 6 .i64 (.c 200) (.bin 7 .i64 (.c (-1)) (.bin 0 .i64 (.v 2) (.c 1)))) (.c 0) false]
noncomputable def E_q4 : EqL := (.i (.app 21 (.g (.s 0) (.i (.bin 0 .i64 (.v 1) (.c 2)) (.i (.bin 0 .i64 (.v 2) (.c 1)) .nil)))) (.app 21 (.g (.s 0) (.i (.v 1) (.i (.v 2) .nil)))) .nil)
theorem f_q4 [Gv] (h0 : TmFact fPT) {x : Int} {K : List Nat} (fc : FP (Gv.σ 0) ((Gv.σ 1).headD 0) ((Gv.σ 2).headD 0) 4 K x) (hK : K ≠ []) : FactT 37 fUs 260 fLi fPR 260 [] := by
  have hA0 := fc.hA
  obtain ⟨p, hp⟩ : ∃ p, (Gv.σ 1).headD 0 = p := ⟨_, rfl⟩
  obtain ⟨o, ho⟩ : ∃ o, (Gv.σ 2).headD 0 = o := ⟨_, rfl⟩
  obtain ⟨R, hR⟩ : ∃ R, Gv.σ 0 = R := ⟨_, rfl⟩
  rw [hp, ho, hR] at fc
  have hv1 : (SE.v 1).eval Gv.σ = p := hp
  have hv2 : (SE.v 2).eval Gv.σ = o := ho
  have hvL : (SE.len (.s 0)).eval Gv.σ = (R.length : Int) := by show ((Gv.σ 0).length : Int) = _; rw [hR]
  obtain ⟨hA, hp0, ho0, hL, hd, hcs, hnext, hfail, hfail0, hn, hx, hl, hl1⟩ := fc
  have hc0 : ∀ y : Int, y = p + 0 → R.getD y.toNat 0 = 35 := hcs 0 (by decide)
  have hc1 : ∀ y : Int, y = p + 1 → R.getD y.toNat 0 = 39 := hcs 1 (by decide)
  have hl : p + 2 ≤ (R.length : Int) := hl
  have hn : ∀ y : Int, y = p + 2 → R.getD y.toNat 0 = x := hn hK
  have hnext : ∀ y z : Int, y = p + 2 → z = o + 1 → overK R y z := hnext hK
  have hfail : ∀ y z : Int, y = p + 2 → z = o + 1 → failP R y z = failP R p o := hfail hK
  have hl1 : p + 2 + 1 ≤ (R.length : Int) := hl1 hK
  have hK1 : 1 ≤ K.length := List.length_pos_iff.2 hK
  have e1 : (SE.rd (.s 0) (.v 1)).eval Gv.σ = (35 : Int) := by show (Gv.σ 0).getD ((SE.v 1).eval Gv.σ).toNat 0 = _; rw [hv1, hR]; exact hc0 _ (by omega)
  have e2 : (SE.bin 0 .i64 (.v 1) (.c 0)).eval Gv.σ = (p + (0 : Int)) := by show IntKind.i64.wrap ((SE.v 1).eval Gv.σ + (SE.c 0).eval Gv.σ) = _; rw [hv1, evC (0), wrap64 (by omega)]
  have e3 : (SE.rd (.s 0) (.bin 0 .i64 (.v 1) (.c 0))).eval Gv.σ = (35 : Int) := by show (Gv.σ 0).getD ((SE.bin 0 .i64 (.v 1) (.c 0)).eval Gv.σ).toNat 0 = _; rw [e2, hR]; exact hc0 _ (by omega)
  have e4 : (SE.bin 0 .i64 (.v 1) (.c 1)).eval Gv.σ = (p + (1 : Int)) := by show IntKind.i64.wrap ((SE.v 1).eval Gv.σ + (SE.c 1).eval Gv.σ) = _; rw [hv1, evC (1), wrap64 (by omega)]
  have e5 : (SE.rd (.s 0) (.bin 0 .i64 (.v 1) (.c 1))).eval Gv.σ = (39 : Int) := by show (Gv.σ 0).getD ((SE.bin 0 .i64 (.v 1) (.c 1)).eval Gv.σ).toNat 0 = _; rw [e4, hR]; exact hc1 _ (by omega)
  have e6 : (SE.bin 0 .i64 (.v 1) (.c 2)).eval Gv.σ = (p + (2 : Int)) := by show IntKind.i64.wrap ((SE.v 1).eval Gv.σ + (SE.c 2).eval Gv.σ) = _; rw [hv1, evC (2), wrap64 (by omega)]
  have e7 : (SE.bin 0 .i64 (.v 2) (.c 1)).eval Gv.σ = (o + (1 : Int)) := by show IntKind.i64.wrap ((SE.v 2).eval Gv.σ + (SE.c 1).eval Gv.σ) = _; rw [hv2, evC (1), wrap64 (by omega)]
  have e9 : (SE.bin 7 .i64 (.c (-1)) (.bin 0 .i64 (.v 2) (.c 1))).eval Gv.σ = ((-1 : Int) * (o + (1 : Int))) := by show (SE.c (-1)).eval Gv.σ * (SE.bin 0 .i64 (.v 2) (.c 1)).eval Gv.σ = _; rw [evC (-1), e7]
  have e8 : (SE.bin 6 .i64 (.c 200) (.bin 7 .i64 (.c (-1)) (.bin 0 .i64 (.v 2) (.c 1)))).eval Gv.σ = ((200 : Int) + ((-1 : Int) * (o + (1 : Int)))) := by show (SE.c 200).eval Gv.σ + (SE.bin 7 .i64 (.c (-1)) (.bin 0 .i64 (.v 2) (.c 1))).eval Gv.σ = _; rw [evC (200), e9]
  have e11 : (SE.bin 7 .i64 (.c (-1)) (.v 2)).eval Gv.σ = ((-1 : Int) * o) := by show (SE.c (-1)).eval Gv.σ * (SE.v 2).eval Gv.σ = _; rw [evC (-1), hv2]
  have e10 : (SE.bin 6 .i64 (.c 200) (.bin 7 .i64 (.c (-1)) (.v 2))).eval Gv.σ = ((200 : Int) + ((-1 : Int) * o)) := by show (SE.c 200).eval Gv.σ + (SE.bin 7 .i64 (.c (-1)) (.v 2)).eval Gv.σ = _; rw [evC (200), e11]
  have e12 : (SE.app 21 (.g (.s 0) (.i (.bin 0 .i64 (.v 1) (.c 2)) (.i (.bin 0 .i64 (.v 2) (.c 1)) .nil)))).eval Gv.σ = failP R (p + (2 : Int)) (o + (1 : Int)) := by show failP (Gv.σ 0) ((SE.bin 0 .i64 (.v 1) (.c 2)).eval Gv.σ) ((SE.bin 0 .i64 (.v 2) (.c 1)).eval Gv.σ) = _; rw [e6, e7, hR]
  have e13 : (SE.app 21 (.g (.s 0) (.i (.v 1) (.i (.v 2) .nil)))).eval Gv.σ = failP R p o := by show failP (Gv.σ 0) ((SE.v 1).eval Gv.σ) ((SE.v 2).eval Gv.σ) = _; rw [hv1, hv2, hR]
  refine tm_of_run (n := 2000) (A := A_q4) (T := []) (E := E_q4) (hooksTM_ok _ (one_mem h0)) noLp_ok ?_ ?_ rfl rfl (by kernel_rfl)
  · unfold A_q4; simp only [sall_cons]
    exact ⟨oK_inv.2 hA0 _ (List.mem_singleton.2 rfl),
      holdsT (by rw [hv1, hvL] <;> omega),
      holdsF (by rw [hv1, evC (0)] <;> omega),
      holdsN (by rw [e1, evC (59)] <;> omega),
      holdsN (by rw [e1, evC (9)] <;> omega),
      holdsN (by rw [e1, evC (10)] <;> omega),
      holdsN (by rw [e1, evC (12)] <;> omega),
      holdsN (by rw [e1, evC (13)] <;> omega),
      holdsN (by rw [e1, evC (32)] <;> omega),
      holdsT (by rw [e2, hvL] <;> omega),
      holdsF (by rw [e2, evC (0)] <;> omega),
      holdsF (by rw [e3, evC (0)] <;> omega),
      holdsN (by rw [e3, evC (40)] <;> omega),
      holdsN (by rw [e3, evC (91)] <;> omega),
      holdsN (by rw [e3, evC (41)] <;> omega),
      holdsN (by rw [e3, evC (93)] <;> omega),
      holdsN (by rw [e3, evC (34)] <;> omega),
      holdsN (by rw [e3, evC (63)] <;> omega),
      holdsN (by rw [e3, evC (39)] <;> omega),
      holdsN (by rw [e3, evC (96)] <;> omega),
      holdsN (by rw [e3, evC (44)] <;> omega),
      holdsE (by rw [e3, evC (35)] <;> omega),
      holdsT (by rw [e4, hvL] <;> omega),
      holdsF (by rw [e4, evC (0)] <;> omega),
      holdsE (by rw [e5, evC (39)] <;> omega),
      holdsT (by rw [hv2, evC (200)] <;> omega),
      o_inv'.2 (by rw [e6, e7]; show overK (Gv.σ 0) _ _; rw [hR]; exact hnext _ _ (by omega) (by omega)),
      holdsT (by rw [e8, e10] <;> omega),
      holdsF (by rw [e8, evC (0)] <;> omega), SAll.nil⟩
  · exact ⟨by rw [e12, e13]; exact hfail _ _ (by omega) (by omega), trivial⟩
theorem fP_one [Gv] (h0 : TmFact fPT) (h : overK (Gv.σ 0) ((Gv.σ 1).headD 0) ((Gv.σ 2).headD 0)) (ho : (Gv.σ 2).headD 0 ≤ 200) : FactT 37 fUs 260 fLi fPR 260 [] := by
  obtain ⟨k, K, x, hk, fc⟩ := over_cases h ho
  cases hK : K with
  | nil =>
    rcases five' hk with rfl | rfl | rfl | rfl | rfl
    · exact f_p0 h0 fc hK
    · exact f_p1 h0 fc hK
    · exact f_p2 h0 fc hK
    · exact f_p3 h0 fc hK
    · exact f_p4 h0 fc hK
  | cons y l =>
    have hK : K ≠ [] := by rw [hK]; simp
    rcases five' hk with rfl | rfl | rfl | rfl | rfl
    · exact f_q0 h0 fc hK
    · exact f_q1 h0 fc hK
    · exact f_q2 h0 fc hK
    · exact f_q3 h0 fc hK
    · exact f_q4 h0 fc hK
theorem fM_eval (σ : Nat → List Int) : fM.eval σ = 200 + (-1) * ((σ 2).headD 0) := rfl
theorem fP_all : ∀ (B : Nat) (σ : Nat → List Int), overK (σ 0) ((σ 1).headD 0) ((σ 2).headD 0) → (σ 2).headD 0 ≤ 200 → fM.eval σ < (B : Int) → @FactT ⟨σ⟩ 37 fUs 260 fLi fPR 260 []
  | 0, σ, h, ho, hb => by rw [fM_eval] at hb; omega
  | B + 1, σ, h, ho, hb => by
    refine @fP_one ⟨σ⟩ ?_ h ho
    intro σ' _ hA hbd
    have hbd : 0 ≤ fM.eval σ' ∧ fM.eval σ' < fM.eval σ := hbd
    have h1 := fM_eval σ'
    exact fP_all B σ' (oK_inv.1 hA) (by omega) (by omega)
theorem fPU_ok [Gv] : TmFact fPU := by
  intro σ _ hA _
  have h : overK (σ 0) ((σ 1).headD 0) ((σ 2).headD 0) := oK1.1 (hA oK (by simp))
  have ho : ¬ (200 : Int) < (σ 2).headD 0 := of_decide_eq_false (hA (.mk true (.c 200) (.v 2) false) (List.mem_cons_of_mem _ (List.mem_singleton.2 rfl)))
  exact fP_all ((fM.eval σ).toNat + 1) σ h (by omega) (by omega)
end Go.Ev
