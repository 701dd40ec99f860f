import Derived.Test.YtkfdioikigponaaGreatDoorRdK
set_option maxRecDepth 100000
set_option linter.all false
namespace Go.Ev
/- read's form: its runs. -/
noncomputable def A_r20 : List SA := [.mk false (.app 14 (.g (.s 0) (.i (.v 1) (.i (.v 2) .nil)))) (.c 1) true, .mk false (.app 15 (.g (.s 0) (.i (.v 1) .nil))) (.c 0) false, .mk true (.c 0) (.app 15 (.g (.s 0) (.i (.v 1) .nil))) true, .mk true (.v 1) (.len (.s 0)) true, .mk true (.v 1) (.c 0) false, .mk false (.rd (.s 0) (.v 1)) (.c 59) false, .mk false (.rd (.s 0) (.v 1)) (.c 9) false, .mk false (.rd (.s 0) (.v 1)) (.c 10) false, .mk false (.rd (.s 0) (.v 1)) (.c 12) false, .mk false (.rd (.s 0) (.v 1)) (.c 13) false, .mk false (.rd (.s 0) (.v 1)) (.c 32) false, .mk true (.bin 0 .i64 (.v 1) (.c 0)) (.len (.s 0)) true, .mk true (.bin 0 .i64 (.v 1) (.c 0)) (.c 0) false, .mk true (.rd (.s 0) (.bin 0 .i64 (.v 1) (.c 0))) (.c 0) false, .mk false (.rd (.s 0) (.bin 0 .i64 (.v 1) (.c 0))) (.c 40) false, .mk false (.rd (.s 0) (.bin 0 .i64 (.v 1) (.c 0))) (.c 91) false, .mk false (.rd (.s 0) (.bin 0 .i64 (.v 1) (.c 0))) (.c 41) false, .mk false (.rd (.s 0) (.bin 0 .i64 (.v 1) (.c 0))) (.c 93) false, .mk false (.rd (.s 0) (.bin 0 .i64 (.v 1) (.c 0))) (.c 34) false, .mk false (.rd (.s 0) (.bin 0 .i64 (.v 1) (.c 0))) (.c 63) false, .mk false (.rd (.s 0) (.bin 0 .i64 (.v 1) (.c 0))) (.c 39) true, .mk true (.v 2) (.c 200) true, .mk false (.app 14 (.g (.s 0) (.i (.bin 0 .i64 (.v 1) (.c 1)) (.i (.bin 0 .i64 (.v 2) (.c 1)) .nil)))) (.c 1) true, .mk false (.app 15 (.g (.s 0) (.i (.bin 0 .i64 (.v 1) (.c 1)) .nil))) (.c 0) true, .mk true (.app 15 (.g (.s 0) (.i (.bin 0 .i64 (.v 1) (.c 1)) .nil))) (.app 15 (.g (.s 0) (.i (.v 1) .nil))) true, .mk true (.app 15 (.g (.s 0) (.i (.bin 0 .i64 (.v 1) (.c 1)) .nil))) (.c 0) false]
noncomputable def E_r20 : EqL := (.i (.bin 6 .i64 (.bin 0 .i64 (.v 1) (.c 1)) (.c 1)) (.app 17 (.g (.s 0) (.i (.v 1) .nil))) (.i (.bin 1 .i64 (.bin 0 .i64 (.v 2) (.c 1)) (.c 1)) (.v 2) (.i (.c 2) (.app 18 (.g (.s 0) (.i (.v 1) .nil))) (.i (.c 0) (.app 19 (.g (.s 0) (.i (.v 1) .nil))) (.i (.c 2) (.app 24 (.g (.s 0) (.i (.v 1) .nil))) (.i (.c 1) (.bin 6 .i64 (.app 18 (.g (.s 0) (.i (.v 1) .nil))) (.c (-1))) .nil))))))
theorem f_r20 [Gv] (h0 : TmFact fT0) (h1 : TmFact fT1) {x : Int} (K : List Nat) (fc : FC 2 K x) (hK : K = []) : FactT 37 fUs 260 fLi fR1 261 fLo := by
  obtain ⟨p, hp⟩ : ∃ p, p = (Gv.σ 1).headD 0 := ⟨_, rfl⟩
  obtain ⟨o, ho⟩ : ∃ o, o = (Gv.σ 2).headD 0 := ⟨_, rfl⟩
  obtain ⟨R, hR⟩ : ∃ R, Gv.σ 0 = R := ⟨_, rfl⟩
  have hv1 : (SE.v 1).eval Gv.σ = p := hp.symm
  have hv2 : (SE.v 2).eval Gv.σ = o := ho.symm
  have hvL : (SE.len (.s 0)).eval Gv.σ = (R.length : Int) := by show ((Gv.σ 0).length : Int) = _; rw [hR]
  obtain ⟨hA, hp0, ho0, hL, hd, hk0, hk1, hnext, hcs, hcl, hn, hx, hlen⟩ := fc.at hp ho hR
  have hc0 : ∀ y : Int, y = p + 0 → R.getD y.toNat 0 = 39 := hcs 0 (by decide)
  have hn : ∀ y : Int, y = p + 1 → R.getD y.toNat 0 = x := hn
  have hk1 : ∀ y : Int, y = p + 1 → kz (R.drop y.toNat) = K := hk1
  have hnext : ∀ y z : Int, y = p + 1 → z = o + 1 → deepR R y z := hnext
  have hm := many_le K
  have ht := txt_pos K
  have hlen : p + 1 + ((txt K).length : Int) + 0 ≤ (R.length : Int) := hlen
  have hd : o + 1 + (K.length : Int) ≤ 200 := hd
  have z1 : ((txt K).length : Int) = 1 := by rw [hK]; rfl
  have z2 : (manyK K : Int) = 0 := by rw [hK]; rfl
  have z3 : (usedK K : Int) = 0 := by rw [hK]; rfl
  have z4 : (K.length : Int) = 0 := by rw [hK]; rfl
  have q1 : ((2 :: K).length : Int) = (K.length : Int) + 1 := by simp
  have q2 : ((txt (2 :: K)).length : Int) = 1 + (txt K).length + 0 := by simp only [txt, opn, clo, List.length_append, List.length_cons, List.length_nil]; omega
  have q3 : (manyK (2 :: K) : Int) = 2 + (manyK K : Int) := by show ((2 + manyK K : Nat) : Int) = _; omega
  have q4 : (usedK (2 :: K) : Int) = 0 + (usedK K : Int) := by show ((0 + usedK K : Nat) : Int) = _; omega
  have q5 : kindW (2 :: K) = 2 := rfl
  have e1 : (SE.app 15 (.g (.s 0) (.i (.v 1) .nil))).eval Gv.σ = ((2 :: K).length : Int) := by show ((kz ((Gv.σ 0).drop ((SE.v 1).eval Gv.σ).toNat)).length : Int) = _; rw [hv1, hR, hk0 _ (by omega : p = p)]
  have e2 : (SE.rd (.s 0) (.v 1)).eval Gv.σ = (39 : Int) := by show (Gv.σ 0).getD ((SE.v 1).eval Gv.σ).toNat 0 = _; rw [hv1, hR]; exact hc0 _ (by omega)
  have e3 : (SE.bin 0 .i64 (.v 1) (.c 0)).eval Gv.σ = (p + (0 : Int)) := by show IntKind.i64.wrap ((SE.v 1).eval Gv.σ + (SE.c 0).eval Gv.σ) = _; rw [hv1, evC (0), wrap64 (by omega)]
  have e4 : (SE.rd (.s 0) (.bin 0 .i64 (.v 1) (.c 0))).eval Gv.σ = (39 : Int) := by show (Gv.σ 0).getD ((SE.bin 0 .i64 (.v 1) (.c 0)).eval Gv.σ).toNat 0 = _; rw [e3, hR]; exact hc0 _ (by omega)
  have e5 : (SE.bin 0 .i64 (.v 1) (.c 1)).eval Gv.σ = (p + (1 : Int)) := by show IntKind.i64.wrap ((SE.v 1).eval Gv.σ + (SE.c 1).eval Gv.σ) = _; rw [hv1, evC (1), wrap64 (by omega)]
  have e6 : (SE.bin 0 .i64 (.v 2) (.c 1)).eval Gv.σ = (o + (1 : Int)) := by show IntKind.i64.wrap ((SE.v 2).eval Gv.σ + (SE.c 1).eval Gv.σ) = _; rw [hv2, evC (1), wrap64 (by omega)]
  have e7 : (SE.app 15 (.g (.s 0) (.i (.bin 0 .i64 (.v 1) (.c 1)) .nil))).eval Gv.σ = ((K).length : Int) := by show ((kz ((Gv.σ 0).drop ((SE.bin 0 .i64 (.v 1) (.c 1)).eval Gv.σ).toNat)).length : Int) = _; rw [e5, hR, hk1 _ (by omega : (p + (1 : Int)) = (p + 1))]
  have e8 : (SE.bin 6 .i64 (.bin 0 .i64 (.v 1) (.c 1)) (.c 1)).eval Gv.σ = ((p + (1 : Int)) + (1 : Int)) := by show (SE.bin 0 .i64 (.v 1) (.c 1)).eval Gv.σ + (SE.c 1).eval Gv.σ = _; rw [e5, evC (1)]
  have e9 : (SE.app 17 (.g (.s 0) (.i (.v 1) .nil))).eval Gv.σ = (p + ((txt (2 :: K)).length : Int)) := by show (SE.v 1).eval Gv.σ + ((txt (kz ((Gv.σ 0).drop ((SE.v 1).eval Gv.σ).toNat))).length : Int) = _; rw [hv1, hR, hk0 _ (by omega : p = p)]
  have e10 : (SE.bin 1 .i64 (.bin 0 .i64 (.v 2) (.c 1)) (.c 1)).eval Gv.σ = ((o + (1 : Int)) - (1 : Int)) := by show IntKind.i64.wrap ((SE.bin 0 .i64 (.v 2) (.c 1)).eval Gv.σ - (SE.c 1).eval Gv.σ) = _; rw [e6, evC (1), wrap64 (by omega)]
  have e11 : (SE.app 18 (.g (.s 0) (.i (.v 1) .nil))).eval Gv.σ = (manyK (2 :: K) : Int) := by show (manyK (kz ((Gv.σ 0).drop ((SE.v 1).eval Gv.σ).toNat)) : Int) = _; rw [hv1, hR, hk0 _ (by omega : p = p)]
  have e12 : (SE.app 19 (.g (.s 0) (.i (.v 1) .nil))).eval Gv.σ = (usedK (2 :: K) : Int) := by show (usedK (kz ((Gv.σ 0).drop ((SE.v 1).eval Gv.σ).toNat)) : Int) = _; rw [hv1, hR, hk0 _ (by omega : p = p)]
  have e13 : (SE.app 24 (.g (.s 0) (.i (.v 1) .nil))).eval Gv.σ = kindW (2 :: K) := by show kindW (kz ((Gv.σ 0).drop ((SE.v 1).eval Gv.σ).toNat)) = _; rw [hv1, hR, hk0 _ (by omega : p = p)]
  have e14 : (SE.bin 6 .i64 (.app 18 (.g (.s 0) (.i (.v 1) .nil))) (.c (-1))).eval Gv.σ = ((manyK (2 :: K) : Int) + (-1 : Int)) := by show (SE.app 18 (.g (.s 0) (.i (.v 1) .nil))).eval Gv.σ + (SE.c (-1)).eval Gv.σ = _; rw [e11, evC (-1)]
  refine tm_of_run (n := 2000) (A := A_r20) (T := [(287, 260)]) (E := E_r20) (hooksTM_ok _ (two_mem h0 h1)) (lpT_ok [kLt] (one_mem k_ok)) ?_ ?_ rfl rfl (by kernel_rfl)
  · unfold A_r20; simp only [sall_cons]
    exact ⟨hA _ (List.mem_singleton.2 rfl),
      holdsN (by rw [e1, evC (0)] <;> omega),
      holdsT (by rw [evC (0), e1] <;> omega),
      holdsT (by rw [hv1, hvL] <;> omega),
      holdsF (by rw [hv1, evC (0)] <;> omega),
      holdsN (by rw [e2, evC (59)] <;> omega),
      holdsN (by rw [e2, evC (9)] <;> omega),
      holdsN (by rw [e2, evC (10)] <;> omega),
      holdsN (by rw [e2, evC (12)] <;> omega),
      holdsN (by rw [e2, evC (13)] <;> omega),
      holdsN (by rw [e2, evC (32)] <;> omega),
      holdsT (by rw [e3, hvL] <;> omega),
      holdsF (by rw [e3, evC (0)] <;> omega),
      holdsF (by rw [e4, evC (0)] <;> omega),
      holdsN (by rw [e4, evC (40)] <;> omega),
      holdsN (by rw [e4, evC (91)] <;> omega),
      holdsN (by rw [e4, evC (41)] <;> omega),
      holdsN (by rw [e4, evC (93)] <;> omega),
      holdsN (by rw [e4, evC (34)] <;> omega),
      holdsN (by rw [e4, evC (63)] <;> omega),
      holdsE (by rw [e4, evC (39)] <;> omega),
      holdsT (by rw [hv2, evC (200)] <;> omega),
      d_inv.2 (by rw [e5, e6]; show deepR (Gv.σ 0) _ _; rw [hR]; exact hnext _ _ (by omega) (by omega)),
      holdsE (by rw [e7, evC (0)] <;> omega),
      holdsT (by rw [e7, e1] <;> omega),
      holdsF (by rw [e7, evC (0)] <;> omega), SAll.nil⟩
  · exact ⟨by rw [e8, e9] <;> omega, by rw [e10, hv2] <;> omega, by rw [evC (2), e11] <;> omega, by rw [evC (0), e12] <;> omega, by rw [evC (2), e13] <;> omega, by rw [evC (1), e14] <;> omega, trivial⟩
noncomputable def A_r21 : List SA := [.mk false (.app 14 (.g (.s 0) (.i (.v 1) (.i (.v 2) .nil)))) (.c 1) true, .mk false (.app 15 (.g (.s 0) (.i (.v 1) .nil))) (.c 0) false, .mk true (.c 0) (.app 15 (.g (.s 0) (.i (.v 1) .nil))) true, .mk true (.v 1) (.len (.s 0)) true, .mk true (.v 1) (.c 0) false, .mk false (.rd (.s 0) (.v 1)) (.c 59) false, .mk false (.rd (.s 0) (.v 1)) (.c 9) false, .mk false (.rd (.s 0) (.v 1)) (.c 10) false, .mk false (.rd (.s 0) (.v 1)) (.c 12) false, .mk false (.rd (.s 0) (.v 1)) (.c 13) false, .mk false (.rd (.s 0) (.v 1)) (.c 32) false, .mk true (.bin 0 .i64 (.v 1) (.c 0)) (.len (.s 0)) true, .mk true (.bin 0 .i64 (.v 1) (.c 0)) (.c 0) false, .mk true (.rd (.s 0) (.bin 0 .i64 (.v 1) (.c 0))) (.c 0) false, .mk false (.rd (.s 0) (.bin 0 .i64 (.v 1) (.c 0))) (.c 40) false, .mk false (.rd (.s 0) (.bin 0 .i64 (.v 1) (.c 0))) (.c 91) false, .mk false (.rd (.s 0) (.bin 0 .i64 (.v 1) (.c 0))) (.c 41) false, .mk false (.rd (.s 0) (.bin 0 .i64 (.v 1) (.c 0))) (.c 93) false, .mk false (.rd (.s 0) (.bin 0 .i64 (.v 1) (.c 0))) (.c 34) false, .mk false (.rd (.s 0) (.bin 0 .i64 (.v 1) (.c 0))) (.c 63) false, .mk false (.rd (.s 0) (.bin 0 .i64 (.v 1) (.c 0))) (.c 39) true, .mk true (.v 2) (.c 200) true, .mk false (.app 14 (.g (.s 0) (.i (.bin 0 .i64 (.v 1) (.c 1)) (.i (.bin 0 .i64 (.v 2) (.c 1)) .nil)))) (.c 1) true, .mk false (.app 15 (.g (.s 0) (.i (.bin 0 .i64 (.v 1) (.c 1)) .nil))) (.c 0) false, .mk true (.c 0) (.app 15 (.g (.s 0) (.i (.bin 0 .i64 (.v 1) (.c 1)) .nil))) true, .mk true (.app 15 (.g (.s 0) (.i (.bin 0 .i64 (.v 1) (.c 1)) .nil))) (.app 15 (.g (.s 0) (.i (.v 1) .nil))) true, .mk true (.app 15 (.g (.s 0) (.i (.bin 0 .i64 (.v 1) (.c 1)) .nil))) (.c 0) false, .mk false (.app 18 (.g (.s 0) (.i (.bin 0 .i64 (.v 1) (.c 1)) .nil))) (.c 1200) false, .mk true (.c 1048576) (.bin 0 .i64 (.app 19 (.g (.s 0) (.i (.bin 0 .i64 (.v 1) (.c 1)) .nil))) (.c 0)) false, .mk true (.c 60000) (.bin 6 .i64 (.app 18 (.g (.s 0) (.i (.bin 0 .i64 (.v 1) (.c 1)) .nil))) (.c 1)) false, .mk false (.bin 0 .i64 (.app 18 (.g (.s 0) (.i (.bin 0 .i64 (.v 1) (.c 1)) .nil))) (.c 1)) (.c 1200) false, .mk true (.c 1048576) (.bin 0 .i64 (.bin 0 .i64 (.app 19 (.g (.s 0) (.i (.bin 0 .i64 (.v 1) (.c 1)) .nil))) (.c 0)) (.c 0)) false, .mk true (.c 60000) (.bin 6 .i64 (.app 18 (.g (.s 0) (.i (.bin 0 .i64 (.v 1) (.c 1)) .nil))) (.c 2)) false]
noncomputable def E_r21 : EqL := (.i (.app 17 (.g (.s 0) (.i (.bin 0 .i64 (.v 1) (.c 1)) .nil))) (.app 17 (.g (.s 0) (.i (.v 1) .nil))) (.i (.bin 1 .i64 (.bin 0 .i64 (.v 2) (.c 1)) (.c 1)) (.v 2) (.i (.bin 0 .i64 (.bin 0 .i64 (.app 18 (.g (.s 0) (.i (.bin 0 .i64 (.v 1) (.c 1)) .nil))) (.c 1)) (.c 1)) (.app 18 (.g (.s 0) (.i (.v 1) .nil))) (.i (.bin 0 .i64 (.bin 0 .i64 (.app 19 (.g (.s 0) (.i (.bin 0 .i64 (.v 1) (.c 1)) .nil))) (.c 0)) (.c 0)) (.app 19 (.g (.s 0) (.i (.v 1) .nil))) (.i (.bin 6 .i64 (.app 18 (.g (.s 0) (.i (.bin 0 .i64 (.v 1) (.c 1)) .nil))) (.c 2)) (.app 18 (.g (.s 0) (.i (.v 1) .nil))) (.i (.c 2) (.app 24 (.g (.s 0) (.i (.v 1) .nil))) (.i (.bin 6 .i64 (.app 18 (.g (.s 0) (.i (.bin 0 .i64 (.v 1) (.c 1)) .nil))) (.c 1)) (.bin 6 .i64 (.app 18 (.g (.s 0) (.i (.v 1) .nil))) (.c (-1))) .nil)))))))
theorem f_r21 [Gv] (h0 : TmFact fT0) (h1 : TmFact fT1) {x : Int} (K : List Nat) (fc : FC 2 K x) (hK : K ≠ []) : FactT 37 fUs 260 fLi fR1 261 fLo := by
  obtain ⟨p, hp⟩ : ∃ p, p = (Gv.σ 1).headD 0 := ⟨_, rfl⟩
  obtain ⟨o, ho⟩ : ∃ o, o = (Gv.σ 2).headD 0 := ⟨_, rfl⟩
  obtain ⟨R, hR⟩ : ∃ R, Gv.σ 0 = R := ⟨_, rfl⟩
  have hv1 : (SE.v 1).eval Gv.σ = p := hp.symm
  have hv2 : (SE.v 2).eval Gv.σ = o := ho.symm
  have hvL : (SE.len (.s 0)).eval Gv.σ = (R.length : Int) := by show ((Gv.σ 0).length : Int) = _; rw [hR]
  obtain ⟨hA, hp0, ho0, hL, hd, hk0, hk1, hnext, hcs, hcl, hn, hx, hlen⟩ := fc.at hp ho hR
  have hc0 : ∀ y : Int, y = p + 0 → R.getD y.toNat 0 = 39 := hcs 0 (by decide)
  have hn : ∀ y : Int, y = p + 1 → R.getD y.toNat 0 = x := hn
  have hk1 : ∀ y : Int, y = p + 1 → kz (R.drop y.toNat) = K := hk1
  have hnext : ∀ y z : Int, y = p + 1 → z = o + 1 → deepR R y z := hnext
  have hm := many_le K
  have ht := txt_pos K
  have hlen : p + 1 + ((txt K).length : Int) + 0 ≤ (R.length : Int) := hlen
  have hd : o + 1 + (K.length : Int) ≤ 200 := hd
  have hK1 : 1 ≤ K.length := List.length_pos_iff.2 hK
  have q1 : ((2 :: K).length : Int) = (K.length : Int) + 1 := by simp
  have q2 : ((txt (2 :: K)).length : Int) = 1 + (txt K).length + 0 := by simp only [txt, opn, clo, List.length_append, List.length_cons, List.length_nil]; omega
  have q3 : (manyK (2 :: K) : Int) = 2 + (manyK K : Int) := by show ((2 + manyK K : Nat) : Int) = _; omega
  have q4 : (usedK (2 :: K) : Int) = 0 + (usedK K : Int) := by show ((0 + usedK K : Nat) : Int) = _; omega
  have q5 : kindW (2 :: K) = 2 := rfl
  have e1 : (SE.app 15 (.g (.s 0) (.i (.v 1) .nil))).eval Gv.σ = ((2 :: K).length : Int) := by show ((kz ((Gv.σ 0).drop ((SE.v 1).eval Gv.σ).toNat)).length : Int) = _; rw [hv1, hR, hk0 _ (by omega : p = p)]
  have e2 : (SE.rd (.s 0) (.v 1)).eval Gv.σ = (39 : Int) := by show (Gv.σ 0).getD ((SE.v 1).eval Gv.σ).toNat 0 = _; rw [hv1, hR]; exact hc0 _ (by omega)
  have e3 : (SE.bin 0 .i64 (.v 1) (.c 0)).eval Gv.σ = (p + (0 : Int)) := by show IntKind.i64.wrap ((SE.v 1).eval Gv.σ + (SE.c 0).eval Gv.σ) = _; rw [hv1, evC (0), wrap64 (by omega)]
  have e4 : (SE.rd (.s 0) (.bin 0 .i64 (.v 1) (.c 0))).eval Gv.σ = (39 : Int) := by show (Gv.σ 0).getD ((SE.bin 0 .i64 (.v 1) (.c 0)).eval Gv.σ).toNat 0 = _; rw [e3, hR]; exact hc0 _ (by omega)
  have e5 : (SE.bin 0 .i64 (.v 1) (.c 1)).eval Gv.σ = (p + (1 : Int)) := by show IntKind.i64.wrap ((SE.v 1).eval Gv.σ + (SE.c 1).eval Gv.σ) = _; rw [hv1, evC (1), wrap64 (by omega)]
  have e6 : (SE.bin 0 .i64 (.v 2) (.c 1)).eval Gv.σ = (o + (1 : Int)) := by show IntKind.i64.wrap ((SE.v 2).eval Gv.σ + (SE.c 1).eval Gv.σ) = _; rw [hv2, evC (1), wrap64 (by omega)]
  have e7 : (SE.app 15 (.g (.s 0) (.i (.bin 0 .i64 (.v 1) (.c 1)) .nil))).eval Gv.σ = ((K).length : Int) := by show ((kz ((Gv.σ 0).drop ((SE.bin 0 .i64 (.v 1) (.c 1)).eval Gv.σ).toNat)).length : Int) = _; rw [e5, hR, hk1 _ (by omega : (p + (1 : Int)) = (p + 1))]
  have e8 : (SE.app 18 (.g (.s 0) (.i (.bin 0 .i64 (.v 1) (.c 1)) .nil))).eval Gv.σ = (manyK (K) : Int) := by show (manyK (kz ((Gv.σ 0).drop ((SE.bin 0 .i64 (.v 1) (.c 1)).eval Gv.σ).toNat)) : Int) = _; rw [e5, hR, hk1 _ (by omega : (p + (1 : Int)) = (p + 1))]
  have e10 : (SE.app 19 (.g (.s 0) (.i (.bin 0 .i64 (.v 1) (.c 1)) .nil))).eval Gv.σ = (usedK (K) : Int) := by show (usedK (kz ((Gv.σ 0).drop ((SE.bin 0 .i64 (.v 1) (.c 1)).eval Gv.σ).toNat)) : Int) = _; rw [e5, hR, hk1 _ (by omega : (p + (1 : Int)) = (p + 1))]
  have e9 : (SE.bin 0 .i64 (.app 19 (.g (.s 0) (.i (.bin 0 .i64 (.v 1) (.c 1)) .nil))) (.c 0)).eval Gv.σ = ((usedK (K) : Int) + (0 : Int)) := by show IntKind.i64.wrap ((SE.app 19 (.g (.s 0) (.i (.bin 0 .i64 (.v 1) (.c 1)) .nil))).eval Gv.σ + (SE.c 0).eval Gv.σ) = _; rw [e10, evC (0), wrap64 (by omega)]
  have e11 : (SE.bin 6 .i64 (.app 18 (.g (.s 0) (.i (.bin 0 .i64 (.v 1) (.c 1)) .nil))) (.c 1)).eval Gv.σ = ((manyK (K) : Int) + (1 : Int)) := by show (SE.app 18 (.g (.s 0) (.i (.bin 0 .i64 (.v 1) (.c 1)) .nil))).eval Gv.σ + (SE.c 1).eval Gv.σ = _; rw [e8, evC (1)]
  have e12 : (SE.bin 0 .i64 (.app 18 (.g (.s 0) (.i (.bin 0 .i64 (.v 1) (.c 1)) .nil))) (.c 1)).eval Gv.σ = ((manyK (K) : Int) + (1 : Int)) := by show IntKind.i64.wrap ((SE.app 18 (.g (.s 0) (.i (.bin 0 .i64 (.v 1) (.c 1)) .nil))).eval Gv.σ + (SE.c 1).eval Gv.σ) = _; rw [e8, evC (1), wrap64 (by omega)]
  have e13 : (SE.bin 0 .i64 (.bin 0 .i64 (.app 19 (.g (.s 0) (.i (.bin 0 .i64 (.v 1) (.c 1)) .nil))) (.c 0)) (.c 0)).eval Gv.σ = (((usedK (K) : Int) + (0 : Int)) + (0 : Int)) := by show IntKind.i64.wrap ((SE.bin 0 .i64 (.app 19 (.g (.s 0) (.i (.bin 0 .i64 (.v 1) (.c 1)) .nil))) (.c 0)).eval Gv.σ + (SE.c 0).eval Gv.σ) = _; rw [e9, evC (0), wrap64 (by omega)]
  have e14 : (SE.bin 6 .i64 (.app 18 (.g (.s 0) (.i (.bin 0 .i64 (.v 1) (.c 1)) .nil))) (.c 2)).eval Gv.σ = ((manyK (K) : Int) + (2 : Int)) := by show (SE.app 18 (.g (.s 0) (.i (.bin 0 .i64 (.v 1) (.c 1)) .nil))).eval Gv.σ + (SE.c 2).eval Gv.σ = _; rw [e8, evC (2)]
  have e15 : (SE.app 17 (.g (.s 0) (.i (.bin 0 .i64 (.v 1) (.c 1)) .nil))).eval Gv.σ = ((p + (1 : Int)) + ((txt (K)).length : Int)) := by show (SE.bin 0 .i64 (.v 1) (.c 1)).eval Gv.σ + ((txt (kz ((Gv.σ 0).drop ((SE.bin 0 .i64 (.v 1) (.c 1)).eval Gv.σ).toNat))).length : Int) = _; rw [e5, hR, hk1 _ (by omega : (p + (1 : Int)) = (p + 1))]
  have e16 : (SE.app 17 (.g (.s 0) (.i (.v 1) .nil))).eval Gv.σ = (p + ((txt (2 :: K)).length : Int)) := by show (SE.v 1).eval Gv.σ + ((txt (kz ((Gv.σ 0).drop ((SE.v 1).eval Gv.σ).toNat))).length : Int) = _; rw [hv1, hR, hk0 _ (by omega : p = p)]
  have e17 : (SE.bin 1 .i64 (.bin 0 .i64 (.v 2) (.c 1)) (.c 1)).eval Gv.σ = ((o + (1 : Int)) - (1 : Int)) := by show IntKind.i64.wrap ((SE.bin 0 .i64 (.v 2) (.c 1)).eval Gv.σ - (SE.c 1).eval Gv.σ) = _; rw [e6, evC (1), wrap64 (by omega)]
  have e18 : (SE.bin 0 .i64 (.bin 0 .i64 (.app 18 (.g (.s 0) (.i (.bin 0 .i64 (.v 1) (.c 1)) .nil))) (.c 1)) (.c 1)).eval Gv.σ = (((manyK (K) : Int) + (1 : Int)) + (1 : Int)) := by show IntKind.i64.wrap ((SE.bin 0 .i64 (.app 18 (.g (.s 0) (.i (.bin 0 .i64 (.v 1) (.c 1)) .nil))) (.c 1)).eval Gv.σ + (SE.c 1).eval Gv.σ) = _; rw [e12, evC (1), wrap64 (by omega)]
  have e19 : (SE.app 18 (.g (.s 0) (.i (.v 1) .nil))).eval Gv.σ = (manyK (2 :: K) : Int) := by show (manyK (kz ((Gv.σ 0).drop ((SE.v 1).eval Gv.σ).toNat)) : Int) = _; rw [hv1, hR, hk0 _ (by omega : p = p)]
  have e20 : (SE.app 19 (.g (.s 0) (.i (.v 1) .nil))).eval Gv.σ = (usedK (2 :: K) : Int) := by show (usedK (kz ((Gv.σ 0).drop ((SE.v 1).eval Gv.σ).toNat)) : Int) = _; rw [hv1, hR, hk0 _ (by omega : p = p)]
  have e21 : (SE.app 24 (.g (.s 0) (.i (.v 1) .nil))).eval Gv.σ = kindW (2 :: K) := by show kindW (kz ((Gv.σ 0).drop ((SE.v 1).eval Gv.σ).toNat)) = _; rw [hv1, hR, hk0 _ (by omega : p = p)]
  have e22 : (SE.bin 6 .i64 (.app 18 (.g (.s 0) (.i (.v 1) .nil))) (.c (-1))).eval Gv.σ = ((manyK (2 :: K) : Int) + (-1 : Int)) := by show (SE.app 18 (.g (.s 0) (.i (.v 1) .nil))).eval Gv.σ + (SE.c (-1)).eval Gv.σ = _; rw [e19, evC (-1)]
  refine tm_of_run (n := 2000) (A := A_r21) (T := [(288, 260)]) (E := E_r21) (hooksTM_ok _ (two_mem h0 h1)) (lpT_ok [kLt] (one_mem k_ok)) ?_ ?_ rfl rfl (by kernel_rfl)
  · unfold A_r21; simp only [sall_cons]
    exact ⟨hA _ (List.mem_singleton.2 rfl),
      holdsN (by rw [e1, evC (0)] <;> omega),
      holdsT (by rw [evC (0), e1] <;> omega),
      holdsT (by rw [hv1, hvL] <;> omega),
      holdsF (by rw [hv1, evC (0)] <;> omega),
      holdsN (by rw [e2, evC (59)] <;> omega),
      holdsN (by rw [e2, evC (9)] <;> omega),
      holdsN (by rw [e2, evC (10)] <;> omega),
      holdsN (by rw [e2, evC (12)] <;> omega),
      holdsN (by rw [e2, evC (13)] <;> omega),
      holdsN (by rw [e2, evC (32)] <;> omega),
      holdsT (by rw [e3, hvL] <;> omega),
      holdsF (by rw [e3, evC (0)] <;> omega),
      holdsF (by rw [e4, evC (0)] <;> omega),
      holdsN (by rw [e4, evC (40)] <;> omega),
      holdsN (by rw [e4, evC (91)] <;> omega),
      holdsN (by rw [e4, evC (41)] <;> omega),
      holdsN (by rw [e4, evC (93)] <;> omega),
      holdsN (by rw [e4, evC (34)] <;> omega),
      holdsN (by rw [e4, evC (63)] <;> omega),
      holdsE (by rw [e4, evC (39)] <;> omega),
      holdsT (by rw [hv2, evC (200)] <;> omega),
      d_inv.2 (by rw [e5, e6]; show deepR (Gv.σ 0) _ _; rw [hR]; exact hnext _ _ (by omega) (by omega)),
      holdsN (by rw [e7, evC (0)] <;> omega),
      holdsT (by rw [evC (0), e7] <;> omega),
      holdsT (by rw [e7, e1] <;> omega),
      holdsF (by rw [e7, evC (0)] <;> omega),
      holdsN (by rw [e8, evC (1200)] <;> omega),
      holdsF (by rw [evC (1048576), e9] <;> omega),
      holdsF (by rw [evC (60000), e11] <;> omega),
      holdsN (by rw [e12, evC (1200)] <;> omega),
      holdsF (by rw [evC (1048576), e13] <;> omega),
      holdsF (by rw [evC (60000), e14] <;> omega), SAll.nil⟩
  · exact ⟨by rw [e15, e16] <;> omega, by rw [e17, hv2] <;> omega, by rw [e18, e19] <;> omega, by rw [e13, e20] <;> omega, by rw [e14, e19] <;> omega, by rw [evC (2), e21] <;> omega, by rw [e11, e22] <;> omega, trivial⟩
noncomputable def A_r30 : List SA := [.mk false (.app 14 (.g (.s 0) (.i (.v 1) (.i (.v 2) .nil)))) (.c 1) true, .mk false (.app 15 (.g (.s 0) (.i (.v 1) .nil))) (.c 0) false, .mk true (.c 0) (.app 15 (.g (.s 0) (.i (.v 1) .nil))) true, .mk true (.v 1) (.len (.s 0)) true, .mk true (.v 1) (.c 0) false, .mk false (.rd (.s 0) (.v 1)) (.c 59) false, .mk false (.rd (.s 0) (.v 1)) (.c 9) false, .mk false (.rd (.s 0) (.v 1)) (.c 10) false, .mk false (.rd (.s 0) (.v 1)) (.c 12) false, .mk false (.rd (.s 0) (.v 1)) (.c 13) false, .mk false (.rd (.s 0) (.v 1)) (.c 32) false, .mk true (.bin 0 .i64 (.v 1) (.c 0)) (.len (.s 0)) true, .mk true (.bin 0 .i64 (.v 1) (.c 0)) (.c 0) false, .mk true (.rd (.s 0) (.bin 0 .i64 (.v 1) (.c 0))) (.c 0) false, .mk false (.rd (.s 0) (.bin 0 .i64 (.v 1) (.c 0))) (.c 40) false, .mk false (.rd (.s 0) (.bin 0 .i64 (.v 1) (.c 0))) (.c 91) false, .mk false (.rd (.s 0) (.bin 0 .i64 (.v 1) (.c 0))) (.c 41) false, .mk false (.rd (.s 0) (.bin 0 .i64 (.v 1) (.c 0))) (.c 93) false, .mk false (.rd (.s 0) (.bin 0 .i64 (.v 1) (.c 0))) (.c 34) false, .mk false (.rd (.s 0) (.bin 0 .i64 (.v 1) (.c 0))) (.c 63) false, .mk false (.rd (.s 0) (.bin 0 .i64 (.v 1) (.c 0))) (.c 39) false, .mk false (.rd (.s 0) (.bin 0 .i64 (.v 1) (.c 0))) (.c 96) false, .mk false (.rd (.s 0) (.bin 0 .i64 (.v 1) (.c 0))) (.c 44) true, .mk true (.bin 0 .i64 (.v 1) (.c 1)) (.len (.s 0)) true, .mk true (.bin 0 .i64 (.v 1) (.c 1)) (.c 0) false, .mk false (.rd (.s 0) (.bin 0 .i64 (.v 1) (.c 1))) (.c 64) true, .mk true (.v 2) (.c 200) true, .mk false (.app 14 (.g (.s 0) (.i (.bin 0 .i64 (.v 1) (.c 2)) (.i (.bin 0 .i64 (.v 2) (.c 1)) .nil)))) (.c 1) true, .mk false (.app 15 (.g (.s 0) (.i (.bin 0 .i64 (.v 1) (.c 2)) .nil))) (.c 0) true, .mk true (.app 15 (.g (.s 0) (.i (.bin 0 .i64 (.v 1) (.c 2)) .nil))) (.app 15 (.g (.s 0) (.i (.v 1) .nil))) true, .mk true (.app 15 (.g (.s 0) (.i (.bin 0 .i64 (.v 1) (.c 2)) .nil))) (.c 0) false]
noncomputable def E_r30 : EqL := (.i (.bin 6 .i64 (.bin 0 .i64 (.v 1) (.c 2)) (.c 1)) (.app 17 (.g (.s 0) (.i (.v 1) .nil))) (.i (.bin 1 .i64 (.bin 0 .i64 (.v 2) (.c 1)) (.c 1)) (.v 2) (.i (.c 2) (.app 18 (.g (.s 0) (.i (.v 1) .nil))) (.i (.c 0) (.app 19 (.g (.s 0) (.i (.v 1) .nil))) (.i (.c 2) (.app 24 (.g (.s 0) (.i (.v 1) .nil))) (.i (.c 1) (.bin 6 .i64 (.app 18 (.g (.s 0) (.i (.v 1) .nil))) (.c (-1))) .nil))))))
theorem f_r30 [Gv] (h0 : TmFact fT0) (h1 : TmFact fT1) {x : Int} (K : List Nat) (fc : FC 3 K x) (hK : K = []) : FactT 37 fUs 260 fLi fR1 261 fLo := by
  obtain ⟨p, hp⟩ : ∃ p, p = (Gv.σ 1).headD 0 := ⟨_, rfl⟩
  obtain ⟨o, ho⟩ : ∃ o, o = (Gv.σ 2).headD 0 := ⟨_, rfl⟩
  obtain ⟨R, hR⟩ : ∃ R, Gv.σ 0 = R := ⟨_, rfl⟩
  have hv1 : (SE.v 1).eval Gv.σ = p := hp.symm
  have hv2 : (SE.v 2).eval Gv.σ = o := ho.symm
  have hvL : (SE.len (.s 0)).eval Gv.σ = (R.length : Int) := by show ((Gv.σ 0).length : Int) = _; rw [hR]
  obtain ⟨hA, hp0, ho0, hL, hd, hk0, hk1, hnext, hcs, hcl, hn, hx, hlen⟩ := fc.at hp ho hR
  have hc0 : ∀ y : Int, y = p + 0 → R.getD y.toNat 0 = 44 := hcs 0 (by decide)
  have hc1 : ∀ y : Int, y = p + 1 → R.getD y.toNat 0 = 64 := hcs 1 (by decide)
  have hn : ∀ y : Int, y = p + 2 → R.getD y.toNat 0 = x := hn
  have hk1 : ∀ y : Int, y = p + 2 → kz (R.drop y.toNat) = K := hk1
  have hnext : ∀ y z : Int, y = p + 2 → z = o + 1 → deepR R y z := hnext
  have hm := many_le K
  have ht := txt_pos K
  have hlen : p + 2 + ((txt K).length : Int) + 0 ≤ (R.length : Int) := hlen
  have hd : o + 1 + (K.length : Int) ≤ 200 := hd
  have z1 : ((txt K).length : Int) = 1 := by rw [hK]; rfl
  have z2 : (manyK K : Int) = 0 := by rw [hK]; rfl
  have z3 : (usedK K : Int) = 0 := by rw [hK]; rfl
  have z4 : (K.length : Int) = 0 := by rw [hK]; rfl
  have q1 : ((3 :: K).length : Int) = (K.length : Int) + 1 := by simp
  have q2 : ((txt (3 :: K)).length : Int) = 2 + (txt K).length + 0 := by simp only [txt, opn, clo, List.length_append, List.length_cons, List.length_nil]; omega
  have q3 : (manyK (3 :: K) : Int) = 2 + (manyK K : Int) := by show ((2 + manyK K : Nat) : Int) = _; omega
  have q4 : (usedK (3 :: K) : Int) = 0 + (usedK K : Int) := by show ((0 + usedK K : Nat) : Int) = _; omega
  have q5 : kindW (3 :: K) = 2 := rfl
  have e1 : (SE.app 15 (.g (.s 0) (.i (.v 1) .nil))).eval Gv.σ = ((3 :: K).length : Int) := by show ((kz ((Gv.σ 0).drop ((SE.v 1).eval Gv.σ).toNat)).length : Int) = _; rw [hv1, hR, hk0 _ (by omega : p = p)]
  have e2 : (SE.rd (.s 0) (.v 1)).eval Gv.σ = (44 : Int) := by show (Gv.σ 0).getD ((SE.v 1).eval Gv.σ).toNat 0 = _; rw [hv1, hR]; exact hc0 _ (by omega)
  have e3 : (SE.bin 0 .i64 (.v 1) (.c 0)).eval Gv.σ = (p + (0 : Int)) := by show IntKind.i64.wrap ((SE.v 1).eval Gv.σ + (SE.c 0).eval Gv.σ) = _; rw [hv1, evC (0), wrap64 (by omega)]
  have e4 : (SE.rd (.s 0) (.bin 0 .i64 (.v 1) (.c 0))).eval Gv.σ = (44 : Int) := by show (Gv.σ 0).getD ((SE.bin 0 .i64 (.v 1) (.c 0)).eval Gv.σ).toNat 0 = _; rw [e3, hR]; exact hc0 _ (by omega)
  have e5 : (SE.bin 0 .i64 (.v 1) (.c 1)).eval Gv.σ = (p + (1 : Int)) := by show IntKind.i64.wrap ((SE.v 1).eval Gv.σ + (SE.c 1).eval Gv.σ) = _; rw [hv1, evC (1), wrap64 (by omega)]
  have e6 : (SE.rd (.s 0) (.bin 0 .i64 (.v 1) (.c 1))).eval Gv.σ = (64 : Int) := by show (Gv.σ 0).getD ((SE.bin 0 .i64 (.v 1) (.c 1)).eval Gv.σ).toNat 0 = _; rw [e5, hR]; exact hc1 _ (by omega)
  have e7 : (SE.bin 0 .i64 (.v 1) (.c 2)).eval Gv.σ = (p + (2 : Int)) := by show IntKind.i64.wrap ((SE.v 1).eval Gv.σ + (SE.c 2).eval Gv.σ) = _; rw [hv1, evC (2), wrap64 (by omega)]
  have e8 : (SE.bin 0 .i64 (.v 2) (.c 1)).eval Gv.σ = (o + (1 : Int)) := by show IntKind.i64.wrap ((SE.v 2).eval Gv.σ + (SE.c 1).eval Gv.σ) = _; rw [hv2, evC (1), wrap64 (by omega)]
  have e9 : (SE.app 15 (.g (.s 0) (.i (.bin 0 .i64 (.v 1) (.c 2)) .nil))).eval Gv.σ = ((K).length : Int) := by show ((kz ((Gv.σ 0).drop ((SE.bin 0 .i64 (.v 1) (.c 2)).eval Gv.σ).toNat)).length : Int) = _; rw [e7, hR, hk1 _ (by omega : (p + (2 : Int)) = (p + 2))]
  have e10 : (SE.bin 6 .i64 (.bin 0 .i64 (.v 1) (.c 2)) (.c 1)).eval Gv.σ = ((p + (2 : Int)) + (1 : Int)) := by show (SE.bin 0 .i64 (.v 1) (.c 2)).eval Gv.σ + (SE.c 1).eval Gv.σ = _; rw [e7, evC (1)]
  have e11 : (SE.app 17 (.g (.s 0) (.i (.v 1) .nil))).eval Gv.σ = (p + ((txt (3 :: K)).length : Int)) := by show (SE.v 1).eval Gv.σ + ((txt (kz ((Gv.σ 0).drop ((SE.v 1).eval Gv.σ).toNat))).length : Int) = _; rw [hv1, hR, hk0 _ (by omega : p = p)]
  have e12 : (SE.bin 1 .i64 (.bin 0 .i64 (.v 2) (.c 1)) (.c 1)).eval Gv.σ = ((o + (1 : Int)) - (1 : Int)) := by show IntKind.i64.wrap ((SE.bin 0 .i64 (.v 2) (.c 1)).eval Gv.σ - (SE.c 1).eval Gv.σ) = _; rw [e8, evC (1), wrap64 (by omega)]
  have e13 : (SE.app 18 (.g (.s 0) (.i (.v 1) .nil))).eval Gv.σ = (manyK (3 :: K) : Int) := by show (manyK (kz ((Gv.σ 0).drop ((SE.v 1).eval Gv.σ).toNat)) : Int) = _; rw [hv1, hR, hk0 _ (by omega : p = p)]
  have e14 : (SE.app 19 (.g (.s 0) (.i (.v 1) .nil))).eval Gv.σ = (usedK (3 :: K) : Int) := by show (usedK (kz ((Gv.σ 0).drop ((SE.v 1).eval Gv.σ).toNat)) : Int) = _; rw [hv1, hR, hk0 _ (by omega : p = p)]
  have e15 : (SE.app 24 (.g (.s 0) (.i (.v 1) .nil))).eval Gv.σ = kindW (3 :: K) := by show kindW (kz ((Gv.σ 0).drop ((SE.v 1).eval Gv.σ).toNat)) = _; rw [hv1, hR, hk0 _ (by omega : p = p)]
  have e16 : (SE.bin 6 .i64 (.app 18 (.g (.s 0) (.i (.v 1) .nil))) (.c (-1))).eval Gv.σ = ((manyK (3 :: K) : Int) + (-1 : Int)) := by show (SE.app 18 (.g (.s 0) (.i (.v 1) .nil))).eval Gv.σ + (SE.c (-1)).eval Gv.σ = _; rw [e13, evC (-1)]
  refine tm_of_run (n := 2000) (A := A_r30) (T := [(287, 260)]) (E := E_r30) (hooksTM_ok _ (two_mem h0 h1)) (lpT_ok [kLt] (one_mem k_ok)) ?_ ?_ rfl rfl (by kernel_rfl)
  · unfold A_r30; simp only [sall_cons]
    exact ⟨hA _ (List.mem_singleton.2 rfl),
      holdsN (by rw [e1, evC (0)] <;> omega),
      holdsT (by rw [evC (0), e1] <;> omega),
      holdsT (by rw [hv1, hvL] <;> omega),
      holdsF (by rw [hv1, evC (0)] <;> omega),
      holdsN (by rw [e2, evC (59)] <;> omega),
      holdsN (by rw [e2, evC (9)] <;> omega),
      holdsN (by rw [e2, evC (10)] <;> omega),
      holdsN (by rw [e2, evC (12)] <;> omega),
      holdsN (by rw [e2, evC (13)] <;> omega),
      holdsN (by rw [e2, evC (32)] <;> omega),
      holdsT (by rw [e3, hvL] <;> omega),
      holdsF (by rw [e3, evC (0)] <;> omega),
      holdsF (by rw [e4, evC (0)] <;> omega),
      holdsN (by rw [e4, evC (40)] <;> omega),
      holdsN (by rw [e4, evC (91)] <;> omega),
      holdsN (by rw [e4, evC (41)] <;> omega),
      holdsN (by rw [e4, evC (93)] <;> omega),
      holdsN (by rw [e4, evC (34)] <;> omega),
      holdsN (by rw [e4, evC (63)] <;> omega),
      holdsN (by rw [e4, evC (39)] <;> omega),
      holdsN (by rw [e4, evC (96)] <;> omega),
      holdsE (by rw [e4, evC (44)] <;> omega),
      holdsT (by rw [e5, hvL] <;> omega),
      holdsF (by rw [e5, evC (0)] <;> omega),
      holdsE (by rw [e6, evC (64)] <;> omega),
      holdsT (by rw [hv2, evC (200)] <;> omega),
      d_inv.2 (by rw [e7, e8]; show deepR (Gv.σ 0) _ _; rw [hR]; exact hnext _ _ (by omega) (by omega)),
      holdsE (by rw [e9, evC (0)] <;> omega),
      holdsT (by rw [e9, e1] <;> omega),
      holdsF (by rw [e9, evC (0)] <;> omega), SAll.nil⟩
  · exact ⟨by rw [e10, e11] <;> omega, by rw [e12, hv2] <;> omega, by rw [evC (2), e13] <;> omega, by rw [evC (0), e14] <;> omega, by rw [evC (2), e15] <;> omega, by rw [evC (1), e16] <;> omega, trivial⟩
noncomputable def A_r31 : List SA := [.mk false (.app 14 (.g (.s 0) (.i (.v 1) (.i (.v 2) .nil)))) (.c 1) true, .mk false (.app 15 (.g (.s 0) (.i (.v 1) .nil))) (.c 0) false, .mk true (.c 0) (.app 15 (.g (.s 0) (.i (.v 1) .nil))) true, .mk true (.v 1) (.len (.s 0)) true, .mk true (.v 1) (.c 0) false, .mk false (.rd (.s 0) (.v 1)) (.c 59) false, .mk false (.rd (.s 0) (.v 1)) (.c 9) false, .mk false (.rd (.s 0) (.v 1)) (.c 10) false, .mk false (.rd (.s 0) (.v 1)) (.c 12) false, .mk false (.rd (.s 0) (.v 1)) (.c 13) false, .mk false (.rd (.s 0) (.v 1)) (.c 32) false, .mk true (.bin 0 .i64 (.v 1) (.c 0)) (.len (.s 0)) true, .mk true (.bin 0 .i64 (.v 1) (.c 0)) (.c 0) false, .mk true (.rd (.s 0) (.bin 0 .i64 (.v 1) (.c 0))) (.c 0) false, .mk false (.rd (.s 0) (.bin 0 .i64 (.v 1) (.c 0))) (.c 40) false, .mk false (.rd (.s 0) (.bin 0 .i64 (.v 1) (.c 0))) (.c 91) false, .mk false (.rd (.s 0) (.bin 0 .i64 (.v 1) (.c 0))) (.c 41) false, .mk false (.rd (.s 0) (.bin 0 .i64 (.v 1) (.c 0))) (.c 93) false, .mk false (.rd (.s 0) (.bin 0 .i64 (.v 1) (.c 0))) (.c 34) false, .mk false (.rd (.s 0) (.bin 0 .i64 (.v 1) (.c 0))) (.c 63) false, .mk false (.rd (.s 0) (.bin 0 .i64 (.v 1) (.c 0))) (.c 39) false, .mk false (.rd (.s 0) (.bin 0 .i64 (.v 1) (.c 0))) (.c 96) false, .mk false (.rd (.s 0) (.bin 0 .i64 (.v 1) (.c 0))) (.c 44) true, .mk true (.bin 0 .i64 (.v 1) (.c 1)) (.len (.s 0)) true, .mk true (.bin 0 .i64 (.v 1) (.c 1)) (.c 0) false, .mk false (.rd (.s 0) (.bin 0 .i64 (.v 1) (.c 1))) (.c 64) true, .mk true (.v 2) (.c 200) true, .mk false (.app 14 (.g (.s 0) (.i (.bin 0 .i64 (.v 1) (.c 2)) (.i (.bin 0 .i64 (.v 2) (.c 1)) .nil)))) (.c 1) true, .mk false (.app 15 (.g (.s 0) (.i (.bin 0 .i64 (.v 1) (.c 2)) .nil))) (.c 0) false, .mk true (.c 0) (.app 15 (.g (.s 0) (.i (.bin 0 .i64 (.v 1) (.c 2)) .nil))) true, .mk true (.app 15 (.g (.s 0) (.i (.bin 0 .i64 (.v 1) (.c 2)) .nil))) (.app 15 (.g (.s 0) (.i (.v 1) .nil))) true, .mk true (.app 15 (.g (.s 0) (.i (.bin 0 .i64 (.v 1) (.c 2)) .nil))) (.c 0) false, .mk false (.app 18 (.g (.s 0) (.i (.bin 0 .i64 (.v 1) (.c 2)) .nil))) (.c 1200) false, .mk true (.c 1048576) (.bin 0 .i64 (.app 19 (.g (.s 0) (.i (.bin 0 .i64 (.v 1) (.c 2)) .nil))) (.c 0)) false, .mk true (.c 60000) (.bin 6 .i64 (.app 18 (.g (.s 0) (.i (.bin 0 .i64 (.v 1) (.c 2)) .nil))) (.c 1)) false, .mk false (.bin 0 .i64 (.app 18 (.g (.s 0) (.i (.bin 0 .i64 (.v 1) (.c 2)) .nil))) (.c 1)) (.c 1200) false, .mk true (.c 1048576) (.bin 0 .i64 (.bin 0 .i64 (.app 19 (.g (.s 0) (.i (.bin 0 .i64 (.v 1) (.c 2)) .nil))) (.c 0)) (.c 0)) false, .mk true (.c 60000) (.bin 6 .i64 (.app 18 (.g (.s 0) (.i (.bin 0 .i64 (.v 1) (.c 2)) .nil))) (.c 2)) false]
noncomputable def E_r31 : EqL := (.i (.app 17 (.g (.s 0) (.i (.bin 0 .i64 (.v 1) (.c 2)) .nil))) (.app 17 (.g (.s 0) (.i (.v 1) .nil))) (.i (.bin 1 .i64 (.bin 0 .i64 (.v 2) (.c 1)) (.c 1)) (.v 2) (.i (.bin 0 .i64 (.bin 0 .i64 (.app 18 (.g (.s 0) (.i (.bin 0 .i64 (.v 1) (.c 2)) .nil))) (.c 1)) (.c 1)) (.app 18 (.g (.s 0) (.i (.v 1) .nil))) (.i (.bin 0 .i64 (.bin 0 .i64 (.app 19 (.g (.s 0) (.i (.bin 0 .i64 (.v 1) (.c 2)) .nil))) (.c 0)) (.c 0)) (.app 19 (.g (.s 0) (.i (.v 1) .nil))) (.i (.bin 6 .i64 (.app 18 (.g (.s 0) (.i (.bin 0 .i64 (.v 1) (.c 2)) .nil))) (.c 2)) (.app 18 (.g (.s 0) (.i (.v 1) .nil))) (.i (.c 2) (.app 24 (.g (.s 0) (.i (.v 1) .nil))) (.i (.bin 6 .i64 (.app 18 (.g (.s 0) (.i (.bin 0 .i64 (.v 1) (.c 2)) .nil))) (.c 1)) (.bin 6 .i64 (.app 18 (.g (.s 0) (.i (.v 1) .nil))) (.c (-1))) .nil)))))))
theorem f_r31 [Gv] (h0 : TmFact fT0) (h1 : TmFact fT1) {x : Int} (K : List Nat) (fc : FC 3 K x) (hK : K ≠ []) : FactT 37 fUs 260 fLi fR1 261 fLo := by
  obtain ⟨p, hp⟩ : ∃ p, p = (Gv.σ 1).headD 0 := ⟨_, rfl⟩
  obtain ⟨o, ho⟩ : ∃ o, o = (Gv.σ 2).headD 0 := ⟨_, rfl⟩
  obtain ⟨R, hR⟩ : ∃ R, Gv.σ 0 = R := ⟨_, rfl⟩
  have hv1 : (SE.v 1).eval Gv.σ = p := hp.symm
  have hv2 : (SE.v 2).eval Gv.σ = o := ho.symm
  have hvL : (SE.len (.s 0)).eval Gv.σ = (R.length : Int) := by show ((Gv.σ 0).length : Int) = _; rw [hR]
  obtain ⟨hA, hp0, ho0, hL, hd, hk0, hk1, hnext, hcs, hcl, hn, hx, hlen⟩ := fc.at hp ho hR
  have hc0 : ∀ y : Int, y = p + 0 → R.getD y.toNat 0 = 44 := hcs 0 (by decide)
  have hc1 : ∀ y : Int, y = p + 1 → R.getD y.toNat 0 = 64 := hcs 1 (by decide)
  have hn : ∀ y : Int, y = p + 2 → R.getD y.toNat 0 = x := hn
  have hk1 : ∀ y : Int, y = p + 2 → kz (R.drop y.toNat) = K := hk1
  have hnext : ∀ y z : Int, y = p + 2 → z = o + 1 → deepR R y z := hnext
  have hm := many_le K
  have ht := txt_pos K
  have hlen : p + 2 + ((txt K).length : Int) + 0 ≤ (R.length : Int) := hlen
  have hd : o + 1 + (K.length : Int) ≤ 200 := hd
  have hK1 : 1 ≤ K.length := List.length_pos_iff.2 hK
  have q1 : ((3 :: K).length : Int) = (K.length : Int) + 1 := by simp
  have q2 : ((txt (3 :: K)).length : Int) = 2 + (txt K).length + 0 := by simp only [txt, opn, clo, List.length_append, List.length_cons, List.length_nil]; omega
  have q3 : (manyK (3 :: K) : Int) = 2 + (manyK K : Int) := by show ((2 + manyK K : Nat) : Int) = _; omega
  have q4 : (usedK (3 :: K) : Int) = 0 + (usedK K : Int) := by show ((0 + usedK K : Nat) : Int) = _; omega
  have q5 : kindW (3 :: K) = 2 := rfl
  have e1 : (SE.app 15 (.g (.s 0) (.i (.v 1) .nil))).eval Gv.σ = ((3 :: K).length : Int) := by show ((kz ((Gv.σ 0).drop ((SE.v 1).eval Gv.σ).toNat)).length : Int) = _; rw [hv1, hR, hk0 _ (by omega : p = p)]
  have e2 : (SE.rd (.s 0) (.v 1)).eval Gv.σ = (44 : Int) := by show (Gv.σ 0).getD ((SE.v 1).eval Gv.σ).toNat 0 = _; rw [hv1, hR]; exact hc0 _ (by omega)
  have e3 : (SE.bin 0 .i64 (.v 1) (.c 0)).eval Gv.σ = (p + (0 : Int)) := by show IntKind.i64.wrap ((SE.v 1).eval Gv.σ + (SE.c 0).eval Gv.σ) = _; rw [hv1, evC (0), wrap64 (by omega)]
  have e4 : (SE.rd (.s 0) (.bin 0 .i64 (.v 1) (.c 0))).eval Gv.σ = (44 : Int) := by show (Gv.σ 0).getD ((SE.bin 0 .i64 (.v 1) (.c 0)).eval Gv.σ).toNat 0 = _; rw [e3, hR]; exact hc0 _ (by omega)
  have e5 : (SE.bin 0 .i64 (.v 1) (.c 1)).eval Gv.σ = (p + (1 : Int)) := by show IntKind.i64.wrap ((SE.v 1).eval Gv.σ + (SE.c 1).eval Gv.σ) = _; rw [hv1, evC (1), wrap64 (by omega)]
  have e6 : (SE.rd (.s 0) (.bin 0 .i64 (.v 1) (.c 1))).eval Gv.σ = (64 : Int) := by show (Gv.σ 0).getD ((SE.bin 0 .i64 (.v 1) (.c 1)).eval Gv.σ).toNat 0 = _; rw [e5, hR]; exact hc1 _ (by omega)
  have e7 : (SE.bin 0 .i64 (.v 1) (.c 2)).eval Gv.σ = (p + (2 : Int)) := by show IntKind.i64.wrap ((SE.v 1).eval Gv.σ + (SE.c 2).eval Gv.σ) = _; rw [hv1, evC (2), wrap64 (by omega)]
  have e8 : (SE.bin 0 .i64 (.v 2) (.c 1)).eval Gv.σ = (o + (1 : Int)) := by show IntKind.i64.wrap ((SE.v 2).eval Gv.σ + (SE.c 1).eval Gv.σ) = _; rw [hv2, evC (1), wrap64 (by omega)]
  have e9 : (SE.app 15 (.g (.s 0) (.i (.bin 0 .i64 (.v 1) (.c 2)) .nil))).eval Gv.σ = ((K).length : Int) := by show ((kz ((Gv.σ 0).drop ((SE.bin 0 .i64 (.v 1) (.c 2)).eval Gv.σ).toNat)).length : Int) = _; rw [e7, hR, hk1 _ (by omega : (p + (2 : Int)) = (p + 2))]
  have e10 : (SE.app 18 (.g (.s 0) (.i (.bin 0 .i64 (.v 1) (.c 2)) .nil))).eval Gv.σ = (manyK (K) : Int) := by show (manyK (kz ((Gv.σ 0).drop ((SE.bin 0 .i64 (.v 1) (.c 2)).eval Gv.σ).toNat)) : Int) = _; rw [e7, hR, hk1 _ (by omega : (p + (2 : Int)) = (p + 2))]
  have e12 : (SE.app 19 (.g (.s 0) (.i (.bin 0 .i64 (.v 1) (.c 2)) .nil))).eval Gv.σ = (usedK (K) : Int) := by show (usedK (kz ((Gv.σ 0).drop ((SE.bin 0 .i64 (.v 1) (.c 2)).eval Gv.σ).toNat)) : Int) = _; rw [e7, hR, hk1 _ (by omega : (p + (2 : Int)) = (p + 2))]
  have e11 : (SE.bin 0 .i64 (.app 19 (.g (.s 0) (.i (.bin 0 .i64 (.v 1) (.c 2)) .nil))) (.c 0)).eval Gv.σ = ((usedK (K) : Int) + (0 : Int)) := by show IntKind.i64.wrap ((SE.app 19 (.g (.s 0) (.i (.bin 0 .i64 (.v 1) (.c 2)) .nil))).eval Gv.σ + (SE.c 0).eval Gv.σ) = _; rw [e12, evC (0), wrap64 (by omega)]
  have e13 : (SE.bin 6 .i64 (.app 18 (.g (.s 0) (.i (.bin 0 .i64 (.v 1) (.c 2)) .nil))) (.c 1)).eval Gv.σ = ((manyK (K) : Int) + (1 : Int)) := by show (SE.app 18 (.g (.s 0) (.i (.bin 0 .i64 (.v 1) (.c 2)) .nil))).eval Gv.σ + (SE.c 1).eval Gv.σ = _; rw [e10, evC (1)]
  have e14 : (SE.bin 0 .i64 (.app 18 (.g (.s 0) (.i (.bin 0 .i64 (.v 1) (.c 2)) .nil))) (.c 1)).eval Gv.σ = ((manyK (K) : Int) + (1 : Int)) := by show IntKind.i64.wrap ((SE.app 18 (.g (.s 0) (.i (.bin 0 .i64 (.v 1) (.c 2)) .nil))).eval Gv.σ + (SE.c 1).eval Gv.σ) = _; rw [e10, evC (1), wrap64 (by omega)]
  have e15 : (SE.bin 0 .i64 (.bin 0 .i64 (.app 19 (.g (.s 0) (.i (.bin 0 .i64 (.v 1) (.c 2)) .nil))) (.c 0)) (.c 0)).eval Gv.σ = (((usedK (K) : Int) + (0 : Int)) + (0 : Int)) := by show IntKind.i64.wrap ((SE.bin 0 .i64 (.app 19 (.g (.s 0) (.i (.bin 0 .i64 (.v 1) (.c 2)) .nil))) (.c 0)).eval Gv.σ + (SE.c 0).eval Gv.σ) = _; rw [e11, evC (0), wrap64 (by omega)]
  have e16 : (SE.bin 6 .i64 (.app 18 (.g (.s 0) (.i (.bin 0 .i64 (.v 1) (.c 2)) .nil))) (.c 2)).eval Gv.σ = ((manyK (K) : Int) + (2 : Int)) := by show (SE.app 18 (.g (.s 0) (.i (.bin 0 .i64 (.v 1) (.c 2)) .nil))).eval Gv.σ + (SE.c 2).eval Gv.σ = _; rw [e10, evC (2)]
  have e17 : (SE.app 17 (.g (.s 0) (.i (.bin 0 .i64 (.v 1) (.c 2)) .nil))).eval Gv.σ = ((p + (2 : Int)) + ((txt (K)).length : Int)) := by show (SE.bin 0 .i64 (.v 1) (.c 2)).eval Gv.σ + ((txt (kz ((Gv.σ 0).drop ((SE.bin 0 .i64 (.v 1) (.c 2)).eval Gv.σ).toNat))).length : Int) = _; rw [e7, hR, hk1 _ (by omega : (p + (2 : Int)) = (p + 2))]
  have e18 : (SE.app 17 (.g (.s 0) (.i (.v 1) .nil))).eval Gv.σ = (p + ((txt (3 :: K)).length : Int)) := by show (SE.v 1).eval Gv.σ + ((txt (kz ((Gv.σ 0).drop ((SE.v 1).eval Gv.σ).toNat))).length : Int) = _; rw [hv1, hR, hk0 _ (by omega : p = p)]
  have e19 : (SE.bin 1 .i64 (.bin 0 .i64 (.v 2) (.c 1)) (.c 1)).eval Gv.σ = ((o + (1 : Int)) - (1 : Int)) := by show IntKind.i64.wrap ((SE.bin 0 .i64 (.v 2) (.c 1)).eval Gv.σ - (SE.c 1).eval Gv.σ) = _; rw [e8, evC (1), wrap64 (by omega)]
  have e20 : (SE.bin 0 .i64 (.bin 0 .i64 (.app 18 (.g (.s 0) (.i (.bin 0 .i64 (.v 1) (.c 2)) .nil))) (.c 1)) (.c 1)).eval Gv.σ = (((manyK (K) : Int) + (1 : Int)) + (1 : Int)) := by show IntKind.i64.wrap ((SE.bin 0 .i64 (.app 18 (.g (.s 0) (.i (.bin 0 .i64 (.v 1) (.c 2)) .nil))) (.c 1)).eval Gv.σ + (SE.c 1).eval Gv.σ) = _; rw [e14, evC (1), wrap64 (by omega)]
  have e21 : (SE.app 18 (.g (.s 0) (.i (.v 1) .nil))).eval Gv.σ = (manyK (3 :: K) : Int) := by show (manyK (kz ((Gv.σ 0).drop ((SE.v 1).eval Gv.σ).toNat)) : Int) = _; rw [hv1, hR, hk0 _ (by omega : p = p)]
  have e22 : (SE.app 19 (.g (.s 0) (.i (.v 1) .nil))).eval Gv.σ = (usedK (3 :: K) : Int) := by show (usedK (kz ((Gv.σ 0).drop ((SE.v 1).eval Gv.σ).toNat)) : Int) = _; rw [hv1, hR, hk0 _ (by omega : p = p)]
  have e23 : (SE.app 24 (.g (.s 0) (.i (.v 1) .nil))).eval Gv.σ = kindW (3 :: K) := by show kindW (kz ((Gv.σ 0).drop ((SE.v 1).eval Gv.σ).toNat)) = _; rw [hv1, hR, hk0 _ (by omega : p = p)]
  have e24 : (SE.bin 6 .i64 (.app 18 (.g (.s 0) (.i (.v 1) .nil))) (.c (-1))).eval Gv.σ = ((manyK (3 :: K) : Int) + (-1 : Int)) := by show (SE.app 18 (.g (.s 0) (.i (.v 1) .nil))).eval Gv.σ + (SE.c (-1)).eval Gv.σ = _; rw [e21, evC (-1)]
  refine tm_of_run (n := 2000) (A := A_r31) (T := [(288, 260)]) (E := E_r31) (hooksTM_ok _ (two_mem h0 h1)) (lpT_ok [kLt] (one_mem k_ok)) ?_ ?_ rfl rfl (by kernel_rfl)
  · unfold A_r31; simp only [sall_cons]
    exact ⟨hA _ (List.mem_singleton.2 rfl),
      holdsN (by rw [e1, evC (0)] <;> omega),
      holdsT (by rw [evC (0), e1] <;> omega),
      holdsT (by rw [hv1, hvL] <;> omega),
      holdsF (by rw [hv1, evC (0)] <;> omega),
      holdsN (by rw [e2, evC (59)] <;> omega),
      holdsN (by rw [e2, evC (9)] <;> omega),
      holdsN (by rw [e2, evC (10)] <;> omega),
      holdsN (by rw [e2, evC (12)] <;> omega),
      holdsN (by rw [e2, evC (13)] <;> omega),
      holdsN (by rw [e2, evC (32)] <;> omega),
      holdsT (by rw [e3, hvL] <;> omega),
      holdsF (by rw [e3, evC (0)] <;> omega),
      holdsF (by rw [e4, evC (0)] <;> omega),
      holdsN (by rw [e4, evC (40)] <;> omega),
      holdsN (by rw [e4, evC (91)] <;> omega),
      holdsN (by rw [e4, evC (41)] <;> omega),
      holdsN (by rw [e4, evC (93)] <;> omega),
      holdsN (by rw [e4, evC (34)] <;> omega),
      holdsN (by rw [e4, evC (63)] <;> omega),
      holdsN (by rw [e4, evC (39)] <;> omega),
      holdsN (by rw [e4, evC (96)] <;> omega),
      holdsE (by rw [e4, evC (44)] <;> omega),
      holdsT (by rw [e5, hvL] <;> omega),
      holdsF (by rw [e5, evC (0)] <;> omega),
      holdsE (by rw [e6, evC (64)] <;> omega),
      holdsT (by rw [hv2, evC (200)] <;> omega),
      d_inv.2 (by rw [e7, e8]; show deepR (Gv.σ 0) _ _; rw [hR]; exact hnext _ _ (by omega) (by omega)),
      holdsN (by rw [e9, evC (0)] <;> omega),
      holdsT (by rw [evC (0), e9] <;> omega),
      holdsT (by rw [e9, e1] <;> omega),
      holdsF (by rw [e9, evC (0)] <;> omega),
      holdsN (by rw [e10, evC (1200)] <;> omega),
      holdsF (by rw [evC (1048576), e11] <;> omega),
      holdsF (by rw [evC (60000), e13] <;> omega),
      holdsN (by rw [e14, evC (1200)] <;> omega),
      holdsF (by rw [evC (1048576), e15] <;> omega),
      holdsF (by rw [evC (60000), e16] <;> omega), SAll.nil⟩
  · exact ⟨by rw [e17, e18] <;> omega, by rw [e19, hv2] <;> omega, by rw [e20, e21] <;> omega, by rw [e15, e22] <;> omega, by rw [e16, e21] <;> omega, by rw [evC (2), e23] <;> omega, by rw [e13, e24] <;> omega, trivial⟩
noncomputable def A_r40 : List SA := [.mk false (.app 14 (.g (.s 0) (.i (.v 1) (.i (.v 2) .nil)))) (.c 1) true, .mk false (.app 15 (.g (.s 0) (.i (.v 1) .nil))) (.c 0) false, .mk true (.c 0) (.app 15 (.g (.s 0) (.i (.v 1) .nil))) true, .mk true (.v 1) (.len (.s 0)) true, .mk true (.v 1) (.c 0) false, .mk false (.rd (.s 0) (.v 1)) (.c 59) false, .mk false (.rd (.s 0) (.v 1)) (.c 9) false, .mk false (.rd (.s 0) (.v 1)) (.c 10) false, .mk false (.rd (.s 0) (.v 1)) (.c 12) false, .mk false (.rd (.s 0) (.v 1)) (.c 13) false, .mk false (.rd (.s 0) (.v 1)) (.c 32) false, .mk true (.bin 0 .i64 (.v 1) (.c 0)) (.len (.s 0)) true, .mk true (.bin 0 .i64 (.v 1) (.c 0)) (.c 0) false, .mk true (.rd (.s 0) (.bin 0 .i64 (.v 1) (.c 0))) (.c 0) false, .mk false (.rd (.s 0) (.bin 0 .i64 (.v 1) (.c 0))) (.c 40) false, .mk false (.rd (.s 0) (.bin 0 .i64 (.v 1) (.c 0))) (.c 91) false, .mk false (.rd (.s 0) (.bin 0 .i64 (.v 1) (.c 0))) (.c 41) false, .mk false (.rd (.s 0) (.bin 0 .i64 (.v 1) (.c 0))) (.c 93) false, .mk false (.rd (.s 0) (.bin 0 .i64 (.v 1) (.c 0))) (.c 34) false, .mk false (.rd (.s 0) (.bin 0 .i64 (.v 1) (.c 0))) (.c 63) false, .mk false (.rd (.s 0) (.bin 0 .i64 (.v 1) (.c 0))) (.c 39) false, .mk false (.rd (.s 0) (.bin 0 .i64 (.v 1) (.c 0))) (.c 96) false, .mk false (.rd (.s 0) (.bin 0 .i64 (.v 1) (.c 0))) (.c 44) false, .mk false (.rd (.s 0) (.bin 0 .i64 (.v 1) (.c 0))) (.c 35) true, .mk true (.bin 0 .i64 (.v 1) (.c 1)) (.len (.s 0)) true, .mk true (.bin 0 .i64 (.v 1) (.c 1)) (.c 0) false, .mk false (.rd (.s 0) (.bin 0 .i64 (.v 1) (.c 1))) (.c 39) true, .mk true (.v 2) (.c 200) true, .mk false (.app 14 (.g (.s 0) (.i (.bin 0 .i64 (.v 1) (.c 2)) (.i (.bin 0 .i64 (.v 2) (.c 1)) .nil)))) (.c 1) true, .mk false (.app 15 (.g (.s 0) (.i (.bin 0 .i64 (.v 1) (.c 2)) .nil))) (.c 0) true, .mk true (.app 15 (.g (.s 0) (.i (.bin 0 .i64 (.v 1) (.c 2)) .nil))) (.app 15 (.g (.s 0) (.i (.v 1) .nil))) true, .mk true (.app 15 (.g (.s 0) (.i (.bin 0 .i64 (.v 1) (.c 2)) .nil))) (.c 0) false]
noncomputable def E_r40 : EqL := (.i (.bin 6 .i64 (.bin 0 .i64 (.v 1) (.c 2)) (.c 1)) (.app 17 (.g (.s 0) (.i (.v 1) .nil))) (.i (.bin 1 .i64 (.bin 0 .i64 (.v 2) (.c 1)) (.c 1)) (.v 2) (.i (.c 2) (.app 18 (.g (.s 0) (.i (.v 1) .nil))) (.i (.c 0) (.app 19 (.g (.s 0) (.i (.v 1) .nil))) (.i (.c 2) (.app 24 (.g (.s 0) (.i (.v 1) .nil))) (.i (.c 1) (.bin 6 .i64 (.app 18 (.g (.s 0) (.i (.v 1) .nil))) (.c (-1))) .nil))))))
theorem f_r40 [Gv] (h0 : TmFact fT0) (h1 : TmFact fT1) {x : Int} (K : List Nat) (fc : FC 4 K x) (hK : K = []) : FactT 37 fUs 260 fLi fR1 261 fLo := by
  obtain ⟨p, hp⟩ : ∃ p, p = (Gv.σ 1).headD 0 := ⟨_, rfl⟩
  obtain ⟨o, ho⟩ : ∃ o, o = (Gv.σ 2).headD 0 := ⟨_, rfl⟩
  obtain ⟨R, hR⟩ : ∃ R, Gv.σ 0 = R := ⟨_, rfl⟩
  have hv1 : (SE.v 1).eval Gv.σ = p := hp.symm
  have hv2 : (SE.v 2).eval Gv.σ = o := ho.symm
  have hvL : (SE.len (.s 0)).eval Gv.σ = (R.length : Int) := by show ((Gv.σ 0).length : Int) = _; rw [hR]
  obtain ⟨hA, hp0, ho0, hL, hd, hk0, hk1, hnext, hcs, hcl, hn, hx, hlen⟩ := fc.at hp ho hR
  have hc0 : ∀ y : Int, y = p + 0 → R.getD y.toNat 0 = 35 := hcs 0 (by decide)
  have hc1 : ∀ y : Int, y = p + 1 → R.getD y.toNat 0 = 39 := hcs 1 (by decide)
  have hn : ∀ y : Int, y = p + 2 → R.getD y.toNat 0 = x := hn
  have hk1 : ∀ y : Int, y = p + 2 → kz (R.drop y.toNat) = K := hk1
  have hnext : ∀ y z : Int, y = p + 2 → z = o + 1 → deepR R y z := hnext
  have hm := many_le K
  have ht := txt_pos K
  have hlen : p + 2 + ((txt K).length : Int) + 0 ≤ (R.length : Int) := hlen
  have hd : o + 1 + (K.length : Int) ≤ 200 := hd
  have z1 : ((txt K).length : Int) = 1 := by rw [hK]; rfl
  have z2 : (manyK K : Int) = 0 := by rw [hK]; rfl
  have z3 : (usedK K : Int) = 0 := by rw [hK]; rfl
  have z4 : (K.length : Int) = 0 := by rw [hK]; rfl
  have q1 : ((4 :: K).length : Int) = (K.length : Int) + 1 := by simp
  have q2 : ((txt (4 :: K)).length : Int) = 2 + (txt K).length + 0 := by simp only [txt, opn, clo, List.length_append, List.length_cons, List.length_nil]; omega
  have q3 : (manyK (4 :: K) : Int) = 2 + (manyK K : Int) := by show ((2 + manyK K : Nat) : Int) = _; omega
  have q4 : (usedK (4 :: K) : Int) = 0 + (usedK K : Int) := by show ((0 + usedK K : Nat) : Int) = _; omega
  have q5 : kindW (4 :: K) = 2 := rfl
  have e1 : (SE.app 15 (.g (.s 0) (.i (.v 1) .nil))).eval Gv.σ = ((4 :: K).length : Int) := by show ((kz ((Gv.σ 0).drop ((SE.v 1).eval Gv.σ).toNat)).length : Int) = _; rw [hv1, hR, hk0 _ (by omega : p = p)]
  have e2 : (SE.rd (.s 0) (.v 1)).eval Gv.σ = (35 : Int) := by show (Gv.σ 0).getD ((SE.v 1).eval Gv.σ).toNat 0 = _; rw [hv1, hR]; exact hc0 _ (by omega)
  have e3 : (SE.bin 0 .i64 (.v 1) (.c 0)).eval Gv.σ = (p + (0 : Int)) := by show IntKind.i64.wrap ((SE.v 1).eval Gv.σ + (SE.c 0).eval Gv.σ) = _; rw [hv1, evC (0), wrap64 (by omega)]
  have e4 : (SE.rd (.s 0) (.bin 0 .i64 (.v 1) (.c 0))).eval Gv.σ = (35 : Int) := by show (Gv.σ 0).getD ((SE.bin 0 .i64 (.v 1) (.c 0)).eval Gv.σ).toNat 0 = _; rw [e3, hR]; exact hc0 _ (by omega)
  have e5 : (SE.bin 0 .i64 (.v 1) (.c 1)).eval Gv.σ = (p + (1 : Int)) := by show IntKind.i64.wrap ((SE.v 1).eval Gv.σ + (SE.c 1).eval Gv.σ) = _; rw [hv1, evC (1), wrap64 (by omega)]
  have e6 : (SE.rd (.s 0) (.bin 0 .i64 (.v 1) (.c 1))).eval Gv.σ = (39 : Int) := by show (Gv.σ 0).getD ((SE.bin 0 .i64 (.v 1) (.c 1)).eval Gv.σ).toNat 0 = _; rw [e5, hR]; exact hc1 _ (by omega)
  have e7 : (SE.bin 0 .i64 (.v 1) (.c 2)).eval Gv.σ = (p + (2 : Int)) := by show IntKind.i64.wrap ((SE.v 1).eval Gv.σ + (SE.c 2).eval Gv.σ) = _; rw [hv1, evC (2), wrap64 (by omega)]
  have e8 : (SE.bin 0 .i64 (.v 2) (.c 1)).eval Gv.σ = (o + (1 : Int)) := by show IntKind.i64.wrap ((SE.v 2).eval Gv.σ + (SE.c 1).eval Gv.σ) = _; rw [hv2, evC (1), wrap64 (by omega)]
  have e9 : (SE.app 15 (.g (.s 0) (.i (.bin 0 .i64 (.v 1) (.c 2)) .nil))).eval Gv.σ = ((K).length : Int) := by show ((kz ((Gv.σ 0).drop ((SE.bin 0 .i64 (.v 1) (.c 2)).eval Gv.σ).toNat)).length : Int) = _; rw [e7, hR, hk1 _ (by omega : (p + (2 : Int)) = (p + 2))]
  have e10 : (SE.bin 6 .i64 (.bin 0 .i64 (.v 1) (.c 2)) (.c 1)).eval Gv.σ = ((p + (2 : Int)) + (1 : Int)) := by show (SE.bin 0 .i64 (.v 1) (.c 2)).eval Gv.σ + (SE.c 1).eval Gv.σ = _; rw [e7, evC (1)]
  have e11 : (SE.app 17 (.g (.s 0) (.i (.v 1) .nil))).eval Gv.σ = (p + ((txt (4 :: K)).length : Int)) := by show (SE.v 1).eval Gv.σ + ((txt (kz ((Gv.σ 0).drop ((SE.v 1).eval Gv.σ).toNat))).length : Int) = _; rw [hv1, hR, hk0 _ (by omega : p = p)]
  have e12 : (SE.bin 1 .i64 (.bin 0 .i64 (.v 2) (.c 1)) (.c 1)).eval Gv.σ = ((o + (1 : Int)) - (1 : Int)) := by show IntKind.i64.wrap ((SE.bin 0 .i64 (.v 2) (.c 1)).eval Gv.σ - (SE.c 1).eval Gv.σ) = _; rw [e8, evC (1), wrap64 (by omega)]
  have e13 : (SE.app 18 (.g (.s 0) (.i (.v 1) .nil))).eval Gv.σ = (manyK (4 :: K) : Int) := by show (manyK (kz ((Gv.σ 0).drop ((SE.v 1).eval Gv.σ).toNat)) : Int) = _; rw [hv1, hR, hk0 _ (by omega : p = p)]
  have e14 : (SE.app 19 (.g (.s 0) (.i (.v 1) .nil))).eval Gv.σ = (usedK (4 :: K) : Int) := by show (usedK (kz ((Gv.σ 0).drop ((SE.v 1).eval Gv.σ).toNat)) : Int) = _; rw [hv1, hR, hk0 _ (by omega : p = p)]
  have e15 : (SE.app 24 (.g (.s 0) (.i (.v 1) .nil))).eval Gv.σ = kindW (4 :: K) := by show kindW (kz ((Gv.σ 0).drop ((SE.v 1).eval Gv.σ).toNat)) = _; rw [hv1, hR, hk0 _ (by omega : p = p)]
  have e16 : (SE.bin 6 .i64 (.app 18 (.g (.s 0) (.i (.v 1) .nil))) (.c (-1))).eval Gv.σ = ((manyK (4 :: K) : Int) + (-1 : Int)) := by show (SE.app 18 (.g (.s 0) (.i (.v 1) .nil))).eval Gv.σ + (SE.c (-1)).eval Gv.σ = _; rw [e13, evC (-1)]
  refine tm_of_run (n := 2000) (A := A_r40) (T := [(287, 260)]) (E := E_r40) (hooksTM_ok _ (two_mem h0 h1)) (lpT_ok [kLt] (one_mem k_ok)) ?_ ?_ rfl rfl (by kernel_rfl)
  · unfold A_r40; simp only [sall_cons]
    exact ⟨hA _ (List.mem_singleton.2 rfl),
      holdsN (by rw [e1, evC (0)] <;> omega),
      holdsT (by rw [evC (0), e1] <;> omega),
      holdsT (by rw [hv1, hvL] <;> omega),
      holdsF (by rw [hv1, evC (0)] <;> omega),
      holdsN (by rw [e2, evC (59)] <;> omega),
      holdsN (by rw [e2, evC (9)] <;> omega),
      holdsN (by rw [e2, evC (10)] <;> omega),
      holdsN (by rw [e2, evC (12)] <;> omega),
      holdsN (by rw [e2, evC (13)] <;> omega),
      holdsN (by rw [e2, evC (32)] <;> omega),
      holdsT (by rw [e3, hvL] <;> omega),
      holdsF (by rw [e3, evC (0)] <;> omega),
      holdsF (by rw [e4, evC (0)] <;> omega),
      holdsN (by rw [e4, evC (40)] <;> omega),
      holdsN (by rw [e4, evC (91)] <;> omega),
      holdsN (by rw [e4, evC (41)] <;> omega),
      holdsN (by rw [e4, evC (93)] <;> omega),
      holdsN (by rw [e4, evC (34)] <;> omega),
      holdsN (by rw [e4, evC (63)] <;> omega),
      holdsN (by rw [e4, evC (39)] <;> omega),
      holdsN (by rw [e4, evC (96)] <;> omega),
      holdsN (by rw [e4, evC (44)] <;> omega),
      holdsE (by rw [e4, evC (35)] <;> omega),
      holdsT (by rw [e5, hvL] <;> omega),
      holdsF (by rw [e5, evC (0)] <;> omega),
      holdsE (by rw [e6, evC (39)] <;> omega),
      holdsT (by rw [hv2, evC (200)] <;> omega),
      d_inv.2 (by rw [e7, e8]; show deepR (Gv.σ 0) _ _; rw [hR]; exact hnext _ _ (by omega) (by omega)),
      holdsE (by rw [e9, evC (0)] <;> omega),
      holdsT (by rw [e9, e1] <;> omega),
      holdsF (by rw [e9, evC (0)] <;> omega), SAll.nil⟩
  · exact ⟨by rw [e10, e11] <;> omega, by rw [e12, hv2] <;> omega, by rw [evC (2), e13] <;> omega, by rw [evC (0), e14] <;> omega, by rw [evC (2), e15] <;> omega, by rw [evC (1), e16] <;> omega, trivial⟩
noncomputable def A_r41 : List SA := [.mk false (.app 14 (.g (.s 0) (.i (.v 1) (.i (.v 2) .nil)))) (.c 1) true, .mk false (.app 15 (.g (.s 0) (.i (.v 1) .nil))) (.c 0) false, .mk true (.c 0) (.app 15 (.g (.s 0) (.i (.v 1) .nil))) true, .mk true (.v 1) (.len (.s 0)) true, .mk true (.v 1) (.c 0) false, .mk false (.rd (.s 0) (.v 1)) (.c 59) false, .mk false (.rd (.s 0) (.v 1)) (.c 9) false, .mk false (.rd (.s 0) (.v 1)) (.c 10) false, .mk false (.rd (.s 0) (.v 1)) (.c 12) false, .mk false (.rd (.s 0) (.v 1)) (.c 13) false, .mk false (.rd (.s 0) (.v 1)) (.c 32) false, .mk true (.bin 0 .i64 (.v 1) (.c 0)) (.len (.s 0)) true, .mk true (.bin 0 .i64 (.v 1) (.c 0)) (.c 0) false, .mk true (.rd (.s 0) (.bin 0 .i64 (.v 1) (.c 0))) (.c 0) false, .mk false (.rd (.s 0) (.bin 0 .i64 (.v 1) (.c 0))) (.c 40) false, .mk false (.rd (.s 0) (.bin 0 .i64 (.v 1) (.c 0))) (.c 91) false, .mk false (.rd (.s 0) (.bin 0 .i64 (.v 1) (.c 0))) (.c 41) false, .mk false (.rd (.s 0) (.bin 0 .i64 (.v 1) (.c 0))) (.c 93) false, .mk false (.rd (.s 0) (.bin 0 .i64 (.v 1) (.c 0))) (.c 34) false, .mk false (.rd (.s 0) (.bin 0 .i64 (.v 1) (.c 0))) (.c 63) false, .mk false (.rd (.s 0) (.bin 0 .i64 (.v 1) (.c 0))) (.c 39) false, .mk false (.rd (.s 0) (.bin 0 .i64 (.v 1) (.c 0))) (.c 96) false, .mk false (.rd (.s 0) (.bin 0 .i64 (.v 1) (.c 0))) (.c 44) false, .mk false (.rd (.s 0) (.bin 0 .i64 (.v 1) (.c 0))) (.c 35) true, .mk true (.bin 0 .i64 (.v 1) (.c 1)) (.len (.s 0)) true, .mk true (.bin 0 .i64 (.v 1) (.c 1)) (.c 0) false, .mk false (.rd (.s 0) (.bin 0 .i64 (.v 1) (.c 1))) (.c 39) true, .mk true (.v 2) (.c 200) true, .mk false (.app 14 (.g (.s 0) (.i (.bin 0 .i64 (.v 1) (.c 2)) (.i (.bin 0 .i64 (.v 2) (.c 1)) .nil)))) (.c 1) true, .mk false (.app 15 (.g (.s 0) (.i (.bin 0 .i64 (.v 1) (.c 2)) .nil))) (.c 0) false, .mk true (.c 0) (.app 15 (.g (.s 0) (.i (.bin 0 .i64 (.v 1) (.c 2)) .nil))) true, .mk true (.app 15 (.g (.s 0) (.i (.bin 0 .i64 (.v 1) (.c 2)) .nil))) (.app 15 (.g (.s 0) (.i (.v 1) .nil))) true, .mk true (.app 15 (.g (.s 0) (.i (.bin 0 .i64 (.v 1) (.c 2)) .nil))) (.c 0) false, .mk false (.app 18 (.g (.s 0) (.i (.bin 0 .i64 (.v 1) (.c 2)) .nil))) (.c 1200) false, .mk true (.c 1048576) (.bin 0 .i64 (.app 19 (.g (.s 0) (.i (.bin 0 .i64 (.v 1) (.c 2)) .nil))) (.c 0)) false, .mk true (.c 60000) (.bin 6 .i64 (.app 18 (.g (.s 0) (.i (.bin 0 .i64 (.v 1) (.c 2)) .nil))) (.c 1)) false, .mk false (.bin 0 .i64 (.app 18 (.g (.s 0) (.i (.bin 0 .i64 (.v 1) (.c 2)) .nil))) (.c 1)) (.c 1200) false, .mk true (.c 1048576) (.bin 0 .i64 (.bin 0 .i64 (.app 19 (.g (.s 0) (.i (.bin 0 .i64 (.v 1) (.c 2)) .nil))) (.c 0)) (.c 0)) false, .mk true (.c 60000) (.bin 6 .i64 (.app 18 (.g (.s 0) (.i (.bin 0 .i64 (.v 1) (.c 2)) .nil))) (.c 2)) false]
noncomputable def E_r41 : EqL := (.i (.app 17 (.g (.s 0) (.i (.bin 0 .i64 (.v 1) (.c 2)) .nil))) (.app 17 (.g (.s 0) (.i (.v 1) .nil))) (.i (.bin 1 .i64 (.bin 0 .i64 (.v 2) (.c 1)) (.c 1)) (.v 2) (.i (.bin 0 .i64 (.bin 0 .i64 (.app 18 (.g (.s 0) (.i (.bin 0 .i64 (.v 1) (.c 2)) .nil))) (.c 1)) (.c 1)) (.app 18 (.g (.s 0) (.i (.v 1) .nil))) (.i (.bin 0 .i64 (.bin 0 .i64 (.app 19 (.g (.s 0) (.i (.bin 0 .i64 (.v 1) (.c 2)) .nil))) (.c 0)) (.c 0)) (.app 19 (.g (.s 0) (.i (.v 1) .nil))) (.i (.bin 6 .i64 (.app 18 (.g (.s 0) (.i (.bin 0 .i64 (.v 1) (.c 2)) .nil))) (.c 2)) (.app 18 (.g (.s 0) (.i (.v 1) .nil))) (.i (.c 2) (.app 24 (.g (.s 0) (.i (.v 1) .nil))) (.i (.bin 6 .i64 (.app 18 (.g (.s 0) (.i (.bin 0 .i64 (.v 1) (.c 2)) .nil))) (.c 1)) (.bin 6 .i64 (.app 18 (.g (.s 0) (.i (.v 1) .nil))) (.c (-1))) .nil)))))))
theorem f_r41 [Gv] (h0 : TmFact fT0) (h1 : TmFact fT1) {x : Int} (K : List Nat) (fc : FC 4 K x) (hK : K ≠ []) : FactT 37 fUs 260 fLi fR1 261 fLo := by
  obtain ⟨p, hp⟩ : ∃ p, p = (Gv.σ 1).headD 0 := ⟨_, rfl⟩
  obtain ⟨o, ho⟩ : ∃ o, o = (Gv.σ 2).headD 0 := ⟨_, rfl⟩
  obtain ⟨R, hR⟩ : ∃ R, Gv.σ 0 = R := ⟨_, rfl⟩
  have hv1 : (SE.v 1).eval Gv.σ = p := hp.symm
  have hv2 : (SE.v 2).eval Gv.σ = o := ho.symm
  have hvL : (SE.len (.s 0)).eval Gv.σ = (R.length : Int) := by show ((Gv.σ 0).length : Int) = _; rw [hR]
  obtain ⟨hA, hp0, ho0, hL, hd, hk0, hk1, hnext, hcs, hcl, hn, hx, hlen⟩ := fc.at hp ho hR
  have hc0 : ∀ y : Int, y = p + 0 → R.getD y.toNat 0 = 35 := hcs 0 (by decide)
  have hc1 : ∀ y : Int, y = p + 1 → R.getD y.toNat 0 = 39 := hcs 1 (by decide)
  have hn : ∀ y : Int, y = p + 2 → R.getD y.toNat 0 = x := hn
  have hk1 : ∀ y : Int, y = p + 2 → kz (R.drop y.toNat) = K := hk1
  have hnext : ∀ y z : Int, y = p + 2 → z = o + 1 → deepR R y z := hnext
  have hm := many_le K
  have ht := txt_pos K
  have hlen : p + 2 + ((txt K).length : Int) + 0 ≤ (R.length : Int) := hlen
  have hd : o + 1 + (K.length : Int) ≤ 200 := hd
  have hK1 : 1 ≤ K.length := List.length_pos_iff.2 hK
  have q1 : ((4 :: K).length : Int) = (K.length : Int) + 1 := by simp
  have q2 : ((txt (4 :: K)).length : Int) = 2 + (txt K).length + 0 := by simp only [txt, opn, clo, List.length_append, List.length_cons, List.length_nil]; omega
  have q3 : (manyK (4 :: K) : Int) = 2 + (manyK K : Int) := by show ((2 + manyK K : Nat) : Int) = _; omega
  have q4 : (usedK (4 :: K) : Int) = 0 + (usedK K : Int) := by show ((0 + usedK K : Nat) : Int) = _; omega
  have q5 : kindW (4 :: K) = 2 := rfl
  have e1 : (SE.app 15 (.g (.s 0) (.i (.v 1) .nil))).eval Gv.σ = ((4 :: K).length : Int) := by show ((kz ((Gv.σ 0).drop ((SE.v 1).eval Gv.σ).toNat)).length : Int) = _; rw [hv1, hR, hk0 _ (by omega : p = p)]
  have e2 : (SE.rd (.s 0) (.v 1)).eval Gv.σ = (35 : Int) := by show (Gv.σ 0).getD ((SE.v 1).eval Gv.σ).toNat 0 = _; rw [hv1, hR]; exact hc0 _ (by omega)
  have e3 : (SE.bin 0 .i64 (.v 1) (.c 0)).eval Gv.σ = (p + (0 : Int)) := by show IntKind.i64.wrap ((SE.v 1).eval Gv.σ + (SE.c 0).eval Gv.σ) = _; rw [hv1, evC (0), wrap64 (by omega)]
  have e4 : (SE.rd (.s 0) (.bin 0 .i64 (.v 1) (.c 0))).eval Gv.σ = (35 : Int) := by show (Gv.σ 0).getD ((SE.bin 0 .i64 (.v 1) (.c 0)).eval Gv.σ).toNat 0 = _; rw [e3, hR]; exact hc0 _ (by omega)
  have e5 : (SE.bin 0 .i64 (.v 1) (.c 1)).eval Gv.σ = (p + (1 : Int)) := by show IntKind.i64.wrap ((SE.v 1).eval Gv.σ + (SE.c 1).eval Gv.σ) = _; rw [hv1, evC (1), wrap64 (by omega)]
  have e6 : (SE.rd (.s 0) (.bin 0 .i64 (.v 1) (.c 1))).eval Gv.σ = (39 : Int) := by show (Gv.σ 0).getD ((SE.bin 0 .i64 (.v 1) (.c 1)).eval Gv.σ).toNat 0 = _; rw [e5, hR]; exact hc1 _ (by omega)
  have e7 : (SE.bin 0 .i64 (.v 1) (.c 2)).eval Gv.σ = (p + (2 : Int)) := by show IntKind.i64.wrap ((SE.v 1).eval Gv.σ + (SE.c 2).eval Gv.σ) = _; rw [hv1, evC (2), wrap64 (by omega)]
  have e8 : (SE.bin 0 .i64 (.v 2) (.c 1)).eval Gv.σ = (o + (1 : Int)) := by show IntKind.i64.wrap ((SE.v 2).eval Gv.σ + (SE.c 1).eval Gv.σ) = _; rw [hv2, evC (1), wrap64 (by omega)]
  have e9 : (SE.app 15 (.g (.s 0) (.i (.bin 0 .i64 (.v 1) (.c 2)) .nil))).eval Gv.σ = ((K).length : Int) := by show ((kz ((Gv.σ 0).drop ((SE.bin 0 .i64 (.v 1) (.c 2)).eval Gv.σ).toNat)).length : Int) = _; rw [e7, hR, hk1 _ (by omega : (p + (2 : Int)) = (p + 2))]
  have e10 : (SE.app 18 (.g (.s 0) (.i (.bin 0 .i64 (.v 1) (.c 2)) .nil))).eval Gv.σ = (manyK (K) : Int) := by show (manyK (kz ((Gv.σ 0).drop ((SE.bin 0 .i64 (.v 1) (.c 2)).eval Gv.σ).toNat)) : Int) = _; rw [e7, hR, hk1 _ (by omega : (p + (2 : Int)) = (p + 2))]
  have e12 : (SE.app 19 (.g (.s 0) (.i (.bin 0 .i64 (.v 1) (.c 2)) .nil))).eval Gv.σ = (usedK (K) : Int) := by show (usedK (kz ((Gv.σ 0).drop ((SE.bin 0 .i64 (.v 1) (.c 2)).eval Gv.σ).toNat)) : Int) = _; rw [e7, hR, hk1 _ (by omega : (p + (2 : Int)) = (p + 2))]
  have e11 : (SE.bin 0 .i64 (.app 19 (.g (.s 0) (.i (.bin 0 .i64 (.v 1) (.c 2)) .nil))) (.c 0)).eval Gv.σ = ((usedK (K) : Int) + (0 : Int)) := by show IntKind.i64.wrap ((SE.app 19 (.g (.s 0) (.i (.bin 0 .i64 (.v 1) (.c 2)) .nil))).eval Gv.σ + (SE.c 0).eval Gv.σ) = _; rw [e12, evC (0), wrap64 (by omega)]
  have e13 : (SE.bin 6 .i64 (.app 18 (.g (.s 0) (.i (.bin 0 .i64 (.v 1) (.c 2)) .nil))) (.c 1)).eval Gv.σ = ((manyK (K) : Int) + (1 : Int)) := by show (SE.app 18 (.g (.s 0) (.i (.bin 0 .i64 (.v 1) (.c 2)) .nil))).eval Gv.σ + (SE.c 1).eval Gv.σ = _; rw [e10, evC (1)]
  have e14 : (SE.bin 0 .i64 (.app 18 (.g (.s 0) (.i (.bin 0 .i64 (.v 1) (.c 2)) .nil))) (.c 1)).eval Gv.σ = ((manyK (K) : Int) + (1 : Int)) := by show IntKind.i64.wrap ((SE.app 18 (.g (.s 0) (.i (.bin 0 .i64 (.v 1) (.c 2)) .nil))).eval Gv.σ + (SE.c 1).eval Gv.σ) = _; rw [e10, evC (1), wrap64 (by omega)]
  have e15 : (SE.bin 0 .i64 (.bin 0 .i64 (.app 19 (.g (.s 0) (.i (.bin 0 .i64 (.v 1) (.c 2)) .nil))) (.c 0)) (.c 0)).eval Gv.σ = (((usedK (K) : Int) + (0 : Int)) + (0 : Int)) := by show IntKind.i64.wrap ((SE.bin 0 .i64 (.app 19 (.g (.s 0) (.i (.bin 0 .i64 (.v 1) (.c 2)) .nil))) (.c 0)).eval Gv.σ + (SE.c 0).eval Gv.σ) = _; rw [e11, evC (0), wrap64 (by omega)]
  have e16 : (SE.bin 6 .i64 (.app 18 (.g (.s 0) (.i (.bin 0 .i64 (.v 1) (.c 2)) .nil))) (.c 2)).eval Gv.σ = ((manyK (K) : Int) + (2 : Int)) := by show (SE.app 18 (.g (.s 0) (.i (.bin 0 .i64 (.v 1) (.c 2)) .nil))).eval Gv.σ + (SE.c 2).eval Gv.σ = _; rw [e10, evC (2)]
  have e17 : (SE.app 17 (.g (.s 0) (.i (.bin 0 .i64 (.v 1) (.c 2)) .nil))).eval Gv.σ = ((p + (2 : Int)) + ((txt (K)).length : Int)) := by show (SE.bin 0 .i64 (.v 1) (.c 2)).eval Gv.σ + ((txt (kz ((Gv.σ 0).drop ((SE.bin 0 .i64 (.v 1) (.c 2)).eval Gv.σ).toNat))).length : Int) = _; rw [e7, hR, hk1 _ (by omega : (p + (2 : Int)) = (p + 2))]
  have e18 : (SE.app 17 (.g (.s 0) (.i (.v 1) .nil))).eval Gv.σ = (p + ((txt (4 :: K)).length : Int)) := by show (SE.v 1).eval Gv.σ + ((txt (kz ((Gv.σ 0).drop ((SE.v 1).eval Gv.σ).toNat))).length : Int) = _; rw [hv1, hR, hk0 _ (by omega : p = p)]
  have e19 : (SE.bin 1 .i64 (.bin 0 .i64 (.v 2) (.c 1)) (.c 1)).eval Gv.σ = ((o + (1 : Int)) - (1 : Int)) := by show IntKind.i64.wrap ((SE.bin 0 .i64 (.v 2) (.c 1)).eval Gv.σ - (SE.c 1).eval Gv.σ) = _; rw [e8, evC (1), wrap64 (by omega)]
  have e20 : (SE.bin 0 .i64 (.bin 0 .i64 (.app 18 (.g (.s 0) (.i (.bin 0 .i64 (.v 1) (.c 2)) .nil))) (.c 1)) (.c 1)).eval Gv.σ = (((manyK (K) : Int) + (1 : Int)) + (1 : Int)) := by show IntKind.i64.wrap ((SE.bin 0 .i64 (.app 18 (.g (.s 0) (.i (.bin 0 .i64 (.v 1) (.c 2)) .nil))) (.c 1)).eval Gv.σ + (SE.c 1).eval Gv.σ) = _; rw [e14, evC (1), wrap64 (by omega)]
  have e21 : (SE.app 18 (.g (.s 0) (.i (.v 1) .nil))).eval Gv.σ = (manyK (4 :: K) : Int) := by show (manyK (kz ((Gv.σ 0).drop ((SE.v 1).eval Gv.σ).toNat)) : Int) = _; rw [hv1, hR, hk0 _ (by omega : p = p)]
  have e22 : (SE.app 19 (.g (.s 0) (.i (.v 1) .nil))).eval Gv.σ = (usedK (4 :: K) : Int) := by show (usedK (kz ((Gv.σ 0).drop ((SE.v 1).eval Gv.σ).toNat)) : Int) = _; rw [hv1, hR, hk0 _ (by omega : p = p)]
  have e23 : (SE.app 24 (.g (.s 0) (.i (.v 1) .nil))).eval Gv.σ = kindW (4 :: K) := by show kindW (kz ((Gv.σ 0).drop ((SE.v 1).eval Gv.σ).toNat)) = _; rw [hv1, hR, hk0 _ (by omega : p = p)]
  have e24 : (SE.bin 6 .i64 (.app 18 (.g (.s 0) (.i (.v 1) .nil))) (.c (-1))).eval Gv.σ = ((manyK (4 :: K) : Int) + (-1 : Int)) := by show (SE.app 18 (.g (.s 0) (.i (.v 1) .nil))).eval Gv.σ + (SE.c (-1)).eval Gv.σ = _; rw [e21, evC (-1)]
  refine tm_of_run (n := 2000) (A := A_r41) (T := [(288, 260)]) (E := E_r41) (hooksTM_ok _ (two_mem h0 h1)) (lpT_ok [kLt] (one_mem k_ok)) ?_ ?_ rfl rfl (by kernel_rfl)
  · unfold A_r41; simp only [sall_cons]
    exact ⟨hA _ (List.mem_singleton.2 rfl),
      holdsN (by rw [e1, evC (0)] <;> omega),
      holdsT (by rw [evC (0), e1] <;> omega),
      holdsT (by rw [hv1, hvL] <;> omega),
      holdsF (by rw [hv1, evC (0)] <;> omega),
      holdsN (by rw [e2, evC (59)] <;> omega),
      holdsN (by rw [e2, evC (9)] <;> omega),
      holdsN (by rw [e2, evC (10)] <;> omega),
      holdsN (by rw [e2, evC (12)] <;> omega),
      holdsN (by rw [e2, evC (13)] <;> omega),
      holdsN (by rw [e2, evC (32)] <;> omega),
      holdsT (by rw [e3, hvL] <;> omega),
      holdsF (by rw [e3, evC (0)] <;> omega),
      holdsF (by rw [e4, evC (0)] <;> omega),
      holdsN (by rw [e4, evC (40)] <;> omega),
      holdsN (by rw [e4, evC (91)] <;> omega),
      holdsN (by rw [e4, evC (41)] <;> omega),
      holdsN (by rw [e4, evC (93)] <;> omega),
      holdsN (by rw [e4, evC (34)] <;> omega),
      holdsN (by rw [e4, evC (63)] <;> omega),
      holdsN (by rw [e4, evC (39)] <;> omega),
      holdsN (by rw [e4, evC (96)] <;> omega),
      holdsN (by rw [e4, evC (44)] <;> omega),
      holdsE (by rw [e4, evC (35)] <;> omega),
      holdsT (by rw [e5, hvL] <;> omega),
      holdsF (by rw [e5, evC (0)] <;> omega),
      holdsE (by rw [e6, evC (39)] <;> omega),
      holdsT (by rw [hv2, evC (200)] <;> omega),
      d_inv.2 (by rw [e7, e8]; show deepR (Gv.σ 0) _ _; rw [hR]; exact hnext _ _ (by omega) (by omega)),
      holdsN (by rw [e9, evC (0)] <;> omega),
      holdsT (by rw [evC (0), e9] <;> omega),
      holdsT (by rw [e9, e1] <;> omega),
      holdsF (by rw [e9, evC (0)] <;> omega),
      holdsN (by rw [e10, evC (1200)] <;> omega),
      holdsF (by rw [evC (1048576), e11] <;> omega),
      holdsF (by rw [evC (60000), e13] <;> omega),
      holdsN (by rw [e14, evC (1200)] <;> omega),
      holdsF (by rw [evC (1048576), e15] <;> omega),
      holdsF (by rw [evC (60000), e16] <;> omega), SAll.nil⟩
  · exact ⟨by rw [e17, e18] <;> omega, by rw [e19, hv2] <;> omega, by rw [e20, e21] <;> omega, by rw [e15, e22] <;> omega, by rw [e16, e21] <;> omega, by rw [evC (2), e23] <;> omega, by rw [e13, e24] <;> omega, trivial⟩
end Go.Ev
