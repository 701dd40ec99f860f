import Derived.Test.YtkfdioikigponaaGreatDoorRdK
set_option maxRecDepth 100000
set_option linter.all false
namespace Go.Ev
/- read's form: its runs. -/
noncomputable def A_b1 : List SA := [.mk false (.app 14 (.g (.s 0) (.i (.v 1) (.i (.v 2) .nil)))) (.c 1) true, .mk true (.v 1) (.len (.s 0)) true, .mk true (.v 1) (.c 0) false, .mk false (.rd (.s 0) (.v 1)) (.c 59) false, .mk false (.rd (.s 0) (.v 1)) (.c 9) false, .mk false (.rd (.s 0) (.v 1)) (.c 10) false, .mk false (.rd (.s 0) (.v 1)) (.c 12) false, .mk false (.rd (.s 0) (.v 1)) (.c 13) false, .mk false (.rd (.s 0) (.v 1)) (.c 32) false, .mk true (.bin 0 .i64 (.v 1) (.c 0)) (.len (.s 0)) true, .mk true (.bin 0 .i64 (.v 1) (.c 0)) (.c 0) false, .mk true (.rd (.s 0) (.bin 0 .i64 (.v 1) (.c 0))) (.c 0) false, .mk false (.rd (.s 0) (.bin 0 .i64 (.v 1) (.c 0))) (.c 40) false, .mk false (.rd (.s 0) (.bin 0 .i64 (.v 1) (.c 0))) (.c 91) false, .mk false (.rd (.s 0) (.bin 0 .i64 (.v 1) (.c 0))) (.c 41) false, .mk false (.rd (.s 0) (.bin 0 .i64 (.v 1) (.c 0))) (.c 93) false, .mk false (.rd (.s 0) (.bin 0 .i64 (.v 1) (.c 0))) (.c 34) false, .mk false (.rd (.s 0) (.bin 0 .i64 (.v 1) (.c 0))) (.c 63) false, .mk false (.rd (.s 0) (.bin 0 .i64 (.v 1) (.c 0))) (.c 39) false, .mk false (.rd (.s 0) (.bin 0 .i64 (.v 1) (.c 0))) (.c 96) false, .mk false (.rd (.s 0) (.bin 0 .i64 (.v 1) (.c 0))) (.c 44) false, .mk false (.rd (.s 0) (.bin 0 .i64 (.v 1) (.c 0))) (.c 35) false, .mk false (.rd (.s 0) (.bin 0 .i64 (.v 1) (.c 0))) (.c 59) false, .mk false (.rd (.s 0) (.bin 0 .i64 (.v 1) (.c 0))) (.c 9) false, .mk false (.rd (.s 0) (.bin 0 .i64 (.v 1) (.c 0))) (.c 10) false, .mk false (.rd (.s 0) (.bin 0 .i64 (.v 1) (.c 0))) (.c 12) false, .mk false (.rd (.s 0) (.bin 0 .i64 (.v 1) (.c 0))) (.c 13) false, .mk false (.rd (.s 0) (.bin 0 .i64 (.v 1) (.c 0))) (.c 32) false, .mk false (.rd (.s 0) (.bin 0 .i64 (.v 1) (.c 0))) (.c 92) false, .mk true (.c 127) (.bin 0 .u32 (.bin 0 .i32 (.rd (.s 0) (.bin 0 .i64 (.v 1) (.c 0))) (.c 0)) (.c 0)) false, .mk false (.app 23 (.g (.s 0) (.i (.bin 0 .i64 (.v 1) (.c 1)) .nil))) (.c 1) true, .mk false (.app 13 (.g (.one (.bin 0 .u8 (.bin 0 .i32 (.rd (.s 0) (.bin 0 .i64 (.v 1) (.c 0))) (.c 0)) (.c 0))) .nil)) (.c 1) true, .mk false (.app 3 (.g (.one (.bin 0 .u8 (.bin 0 .i32 (.rd (.s 0) (.bin 0 .i64 (.v 1) (.c 0))) (.c 0)) (.c 0))) .nil)) (.c 1) true]
noncomputable def E_b1 : EqL := (.i (.bin 0 .i64 (.v 1) (.c 1)) (.bin 6 .i64 (.v 1) (.c 1)) (.i (.app 6 (.g (.one (.bin 0 .u8 (.bin 0 .i32 (.rd (.s 0) (.bin 0 .i64 (.v 1) (.c 0))) (.c 0)) (.c 0))) .nil)) (.c 1) .nil))
theorem f_b1 [Gv] (h0 : TmFact fT0) (h1 : TmFact fT1) {x : Int} (fc : FB) : FactT 37 fUs 260 fLi fR0 260 fLo0 := by
  obtain ⟨p, hp⟩ : ∃ p, p = (Gv.σ 1).headD 0 := ⟨_, rfl⟩
  obtain ⟨o, ho⟩ : ∃ o, o = (Gv.σ 2).headD 0 := ⟨_, rfl⟩
  obtain ⟨R, hR⟩ : ∃ R, Gv.σ 0 = R := ⟨_, rfl⟩
  have hv1 : (SE.v 1).eval Gv.σ = p := hp.symm
  have hv2 : (SE.v 2).eval Gv.σ = o := ho.symm
  have hvL : (SE.len (.s 0)).eval Gv.σ = (R.length : Int) := by show ((Gv.σ 0).length : Int) = _; rw [hR]
  obtain ⟨hA, hp0, ho0, hL, hc0, hk0, hstop, hlen⟩ := fc.at hp ho hR
  have e1 : (SE.rd (.s 0) (.v 1)).eval Gv.σ = (49 : Int) := by show (Gv.σ 0).getD ((SE.v 1).eval Gv.σ).toNat 0 = _; rw [hv1, hR]; exact hc0 _ (by omega)
  have e2 : (SE.bin 0 .i64 (.v 1) (.c 0)).eval Gv.σ = (p + (0 : Int)) := by show IntKind.i64.wrap ((SE.v 1).eval Gv.σ + (SE.c 0).eval Gv.σ) = _; rw [hv1, evC (0), wrap64 (by omega)]
  have e3 : (SE.rd (.s 0) (.bin 0 .i64 (.v 1) (.c 0))).eval Gv.σ = (49 : Int) := by show (Gv.σ 0).getD ((SE.bin 0 .i64 (.v 1) (.c 0)).eval Gv.σ).toNat 0 = _; rw [e2, hR]; exact hc0 _ (by omega)
  have e5 : (SE.bin 0 .i32 (.rd (.s 0) (.bin 0 .i64 (.v 1) (.c 0))) (.c 0)).eval Gv.σ = ((49 : Int) + (0 : Int)) := by show IntKind.i32.wrap ((SE.rd (.s 0) (.bin 0 .i64 (.v 1) (.c 0))).eval Gv.σ + (SE.c 0).eval Gv.σ) = _; rw [e3, evC (0), wrap32 (by omega)]
  have e4 : (SE.bin 0 .u32 (.bin 0 .i32 (.rd (.s 0) (.bin 0 .i64 (.v 1) (.c 0))) (.c 0)) (.c 0)).eval Gv.σ = (((49 : Int) + (0 : Int)) + (0 : Int)) := by show IntKind.u32.wrap ((SE.bin 0 .i32 (.rd (.s 0) (.bin 0 .i64 (.v 1) (.c 0))) (.c 0)).eval Gv.σ + (SE.c 0).eval Gv.σ) = _; rw [e5, evC (0), wrapU32 (by omega)]
  have e6 : (SE.bin 0 .i64 (.v 1) (.c 1)).eval Gv.σ = (p + (1 : Int)) := by show IntKind.i64.wrap ((SE.v 1).eval Gv.σ + (SE.c 1).eval Gv.σ) = _; rw [hv1, evC (1), wrap64 (by omega)]
  have e7 : (SE.bin 0 .u8 (.bin 0 .i32 (.rd (.s 0) (.bin 0 .i64 (.v 1) (.c 0))) (.c 0)) (.c 0)).eval Gv.σ = (((49 : Int) + (0 : Int)) + (0 : Int)) := by show IntKind.u8.wrap ((SE.bin 0 .i32 (.rd (.s 0) (.bin 0 .i64 (.v 1) (.c 0))) (.c 0)).eval Gv.σ + (SE.c 0).eval Gv.σ) = _; rw [e5, evC (0), wrapU8 (by omega)]
  have e8 : (SE.bin 6 .i64 (.v 1) (.c 1)).eval Gv.σ = (p + (1 : Int)) := by show (SE.v 1).eval Gv.σ + (SE.c 1).eval Gv.σ = _; rw [hv1, evC (1)]
  have e9 : (SE.app 6 (.g (.one (.bin 0 .u8 (.bin 0 .i32 (.rd (.s 0) (.bin 0 .i64 (.v 1) (.c 0))) (.c 0)) (.c 0))) .nil)).eval Gv.σ = (1 : Int) := by show valI [(SE.bin 0 .u8 (.bin 0 .i32 (.rd (.s 0) (.bin 0 .i64 (.v 1) (.c 0))) (.c 0)) (.c 0)).eval Gv.σ] = _; rw [e7]; exact val49
  refine tm_of_run (n := 2000) (A := A_b1) (T := []) (E := E_b1) (hooksTM_ok _ (one_mem num_ok)) (lpT_ok [kLt] (one_mem k_ok)) ?_ ?_ rfl rfl (by kernel_rfl)
  · unfold A_b1; simp only [sall_cons]
    exact ⟨hA _ (List.mem_singleton.2 rfl),
      holdsT (by rw [hv1, hvL] <;> omega),
      holdsF (by rw [hv1, evC (0)] <;> omega),
      holdsN (by rw [e1, evC (59)] <;> omega),
      holdsN (by rw [e1, evC (9)] <;> omega),
      holdsN (by rw [e1, evC (10)] <;> omega),
      holdsN (by rw [e1, evC (12)] <;> omega),
      holdsN (by rw [e1, evC (13)] <;> omega),
      holdsN (by rw [e1, evC (32)] <;> omega),
      holdsT (by rw [e2, hvL] <;> omega),
      holdsF (by rw [e2, evC (0)] <;> omega),
      holdsF (by rw [e3, evC (0)] <;> omega),
      holdsN (by rw [e3, evC (40)] <;> omega),
      holdsN (by rw [e3, evC (91)] <;> omega),
      holdsN (by rw [e3, evC (41)] <;> omega),
      holdsN (by rw [e3, evC (93)] <;> omega),
      holdsN (by rw [e3, evC (34)] <;> omega),
      holdsN (by rw [e3, evC (63)] <;> omega),
      holdsN (by rw [e3, evC (39)] <;> omega),
      holdsN (by rw [e3, evC (96)] <;> omega),
      holdsN (by rw [e3, evC (44)] <;> omega),
      holdsN (by rw [e3, evC (35)] <;> omega),
      holdsN (by rw [e3, evC (59)] <;> omega),
      holdsN (by rw [e3, evC (9)] <;> omega),
      holdsN (by rw [e3, evC (10)] <;> omega),
      holdsN (by rw [e3, evC (12)] <;> omega),
      holdsN (by rw [e3, evC (13)] <;> omega),
      holdsN (by rw [e3, evC (32)] <;> omega),
      holdsN (by rw [e3, evC (92)] <;> omega),
      holdsF (by rw [evC (127), e4] <;> omega),
      st_inv.2 (by rw [e6]; show stopR (Gv.σ 0) _; rw [hR]; exact hstop _ (by omega)),
      q13.2 (by show tokR [(SE.bin 0 .u8 (.bin 0 .i32 (.rd (.s 0) (.bin 0 .i64 (.v 1) (.c 0))) (.c 0)) (.c 0)).eval Gv.σ]; rw [e7]; exact tok49),
      q3.2 (by show fitR [(SE.bin 0 .u8 (.bin 0 .i32 (.rd (.s 0) (.bin 0 .i64 (.v 1) (.c 0))) (.c 0)) (.c 0)).eval Gv.σ]; rw [e7]; exact fit49), SAll.nil⟩
  · exact ⟨by rw [e6, e8] <;> omega, by rw [e9, evC (1)] <;> omega, trivial⟩
noncomputable def A_r00 : List SA := [.mk false (.app 14 (.g (.s 0) (.i (.v 1) (.i (.v 2) .nil)))) (.c 1) true, .mk false (.app 15 (.g (.s 0) (.i (.v 1) .nil))) (.c 0) false, .mk true (.c 0) (.app 15 (.g (.s 0) (.i (.v 1) .nil))) true, .mk true (.v 1) (.len (.s 0)) true, .mk true (.v 1) (.c 0) false, .mk false (.rd (.s 0) (.v 1)) (.c 59) false, .mk false (.rd (.s 0) (.v 1)) (.c 9) false, .mk false (.rd (.s 0) (.v 1)) (.c 10) false, .mk false (.rd (.s 0) (.v 1)) (.c 12) false, .mk false (.rd (.s 0) (.v 1)) (.c 13) false, .mk false (.rd (.s 0) (.v 1)) (.c 32) false, .mk true (.bin 0 .i64 (.v 1) (.c 0)) (.len (.s 0)) true, .mk true (.bin 0 .i64 (.v 1) (.c 0)) (.c 0) false, .mk true (.rd (.s 0) (.bin 0 .i64 (.v 1) (.c 0))) (.c 0) false, .mk false (.rd (.s 0) (.bin 0 .i64 (.v 1) (.c 0))) (.c 40) true, .mk true (.v 2) (.c 200) true, .mk true (.bin 0 .i64 (.v 1) (.c 1)) (.len (.s 0)) true, .mk true (.bin 0 .i64 (.v 1) (.c 1)) (.c 0) false, .mk false (.rd (.s 0) (.bin 0 .i64 (.v 1) (.c 1))) (.c 59) false, .mk false (.rd (.s 0) (.bin 0 .i64 (.v 1) (.c 1))) (.c 9) false, .mk false (.rd (.s 0) (.bin 0 .i64 (.v 1) (.c 1))) (.c 10) false, .mk false (.rd (.s 0) (.bin 0 .i64 (.v 1) (.c 1))) (.c 12) false, .mk false (.rd (.s 0) (.bin 0 .i64 (.v 1) (.c 1))) (.c 13) false, .mk false (.rd (.s 0) (.bin 0 .i64 (.v 1) (.c 1))) (.c 32) false, .mk true (.bin 0 .i64 (.bin 0 .i64 (.v 1) (.c 1)) (.c 0)) (.len (.s 0)) true, .mk true (.bin 0 .i64 (.bin 0 .i64 (.v 1) (.c 1)) (.c 0)) (.c 0) false, .mk true (.rd (.s 0) (.bin 0 .i64 (.bin 0 .i64 (.v 1) (.c 1)) (.c 0))) (.c 0) false, .mk false (.rd (.s 0) (.bin 0 .i64 (.bin 0 .i64 (.v 1) (.c 1)) (.c 0))) (.c 41) false, .mk false (.rd (.s 0) (.bin 0 .i64 (.bin 0 .i64 (.v 1) (.c 1)) (.c 0))) (.c 46) false, .mk false (.app 14 (.g (.s 0) (.i (.bin 0 .i64 (.v 1) (.c 1)) (.i (.bin 0 .i64 (.v 2) (.c 1)) .nil)))) (.c 1) true, .mk false (.app 15 (.g (.s 0) (.i (.bin 0 .i64 (.v 1) (.c 1)) .nil))) (.c 0) true, .mk true (.app 15 (.g (.s 0) (.i (.bin 0 .i64 (.v 1) (.c 1)) .nil))) (.app 15 (.g (.s 0) (.i (.v 1) .nil))) true, .mk true (.app 15 (.g (.s 0) (.i (.bin 0 .i64 (.v 1) (.c 1)) .nil))) (.c 0) false, .mk true (.bin 6 .i64 (.bin 0 .i64 (.v 1) (.c 1)) (.c 1)) (.len (.s 0)) true, .mk true (.bin 6 .i64 (.bin 0 .i64 (.v 1) (.c 1)) (.c 1)) (.c 0) false, .mk false (.rd (.s 0) (.bin 6 .i64 (.bin 0 .i64 (.v 1) (.c 1)) (.c 1))) (.c 59) false, .mk false (.rd (.s 0) (.bin 6 .i64 (.bin 0 .i64 (.v 1) (.c 1)) (.c 1))) (.c 9) false, .mk false (.rd (.s 0) (.bin 6 .i64 (.bin 0 .i64 (.v 1) (.c 1)) (.c 1))) (.c 10) false, .mk false (.rd (.s 0) (.bin 6 .i64 (.bin 0 .i64 (.v 1) (.c 1)) (.c 1))) (.c 12) false, .mk false (.rd (.s 0) (.bin 6 .i64 (.bin 0 .i64 (.v 1) (.c 1)) (.c 1))) (.c 13) false, .mk false (.rd (.s 0) (.bin 6 .i64 (.bin 0 .i64 (.v 1) (.c 1)) (.c 1))) (.c 32) false, .mk true (.bin 0 .i64 (.bin 6 .i64 (.bin 0 .i64 (.v 1) (.c 1)) (.c 1)) (.c 0)) (.len (.s 0)) true, .mk true (.bin 0 .i64 (.bin 6 .i64 (.bin 0 .i64 (.v 1) (.c 1)) (.c 1)) (.c 0)) (.c 0) false, .mk true (.rd (.s 0) (.bin 0 .i64 (.bin 6 .i64 (.bin 0 .i64 (.v 1) (.c 1)) (.c 1)) (.c 0))) (.c 0) false, .mk false (.rd (.s 0) (.bin 0 .i64 (.bin 6 .i64 (.bin 0 .i64 (.v 1) (.c 1)) (.c 1)) (.c 0))) (.c 41) true]
noncomputable def E_r00 : EqL := (.i (.bin 0 .i64 (.bin 6 .i64 (.bin 0 .i64 (.v 1) (.c 1)) (.c 1)) (.c 1)) (.app 17 (.g (.s 0) (.i (.v 1) .nil))) (.i (.bin 1 .i64 (.bin 0 .i64 (.v 2) (.c 1)) (.c 1)) (.v 2) (.i (.c 1) (.app 18 (.g (.s 0) (.i (.v 1) .nil))) (.i (.c 0) (.app 19 (.g (.s 0) (.i (.v 1) .nil))) (.i (.c 2) (.app 24 (.g (.s 0) (.i (.v 1) .nil))) (.i (.c 0) (.bin 6 .i64 (.app 18 (.g (.s 0) (.i (.v 1) .nil))) (.c (-1))) .nil))))))
theorem f_r00 [Gv] (h0 : TmFact fT0) (h1 : TmFact fT1) {x : Int} (K : List Nat) (fc : FC 0 K x) (hK : K = []) : FactT 37 fUs 260 fLi fR1 261 fLo := by
  obtain ⟨p, hp⟩ : ∃ p, p = (Gv.σ 1).headD 0 := ⟨_, rfl⟩
  obtain ⟨o, ho⟩ : ∃ o, o = (Gv.σ 2).headD 0 := ⟨_, rfl⟩
  obtain ⟨R, hR⟩ : ∃ R, Gv.σ 0 = R := ⟨_, rfl⟩
  have hv1 : (SE.v 1).eval Gv.σ = p := hp.symm
  have hv2 : (SE.v 2).eval Gv.σ = o := ho.symm
  have hvL : (SE.len (.s 0)).eval Gv.σ = (R.length : Int) := by show ((Gv.σ 0).length : Int) = _; rw [hR]
  obtain ⟨hA, hp0, ho0, hL, hd, hk0, hk1, hnext, hcs, hcl, hn, hx, hlen⟩ := fc.at hp ho hR
  have hc0 : ∀ y : Int, y = p + 0 → R.getD y.toNat 0 = 40 := hcs 0 (by decide)
  have hcl : ∀ y : Int, y = p + 1 + ((txt K).length : Int) → R.getD y.toNat 0 = 41 := fun y hy => hcl 0 (by decide) y (hy.trans (Int.add_zero _).symm)
  have hn : ∀ y : Int, y = p + 1 → R.getD y.toNat 0 = x := hn
  have hk1 : ∀ y : Int, y = p + 1 → kz (R.drop y.toNat) = K := hk1
  have hnext : ∀ y z : Int, y = p + 1 → z = o + 1 → deepR R y z := hnext
  have hm := many_le K
  have ht := txt_pos K
  have hlen : p + 1 + ((txt K).length : Int) + 1 ≤ (R.length : Int) := hlen
  have hd : o + 1 + (K.length : Int) ≤ 200 := hd
  have z1 : ((txt K).length : Int) = 1 := by rw [hK]; rfl
  have z2 : (manyK K : Int) = 0 := by rw [hK]; rfl
  have z3 : (usedK K : Int) = 0 := by rw [hK]; rfl
  have z4 : (K.length : Int) = 0 := by rw [hK]; rfl
  have q1 : ((0 :: K).length : Int) = (K.length : Int) + 1 := by simp
  have q2 : ((txt (0 :: K)).length : Int) = 1 + (txt K).length + 1 := by simp only [txt, opn, clo, List.length_append, List.length_cons, List.length_nil]; omega
  have q3 : (manyK (0 :: K) : Int) = 1 + (manyK K : Int) := by show ((1 + manyK K : Nat) : Int) = _; omega
  have q4 : (usedK (0 :: K) : Int) = 0 + (usedK K : Int) := by show ((0 + usedK K : Nat) : Int) = _; omega
  have q5 : kindW (0 :: K) = 2 := rfl
  have e1 : (SE.app 15 (.g (.s 0) (.i (.v 1) .nil))).eval Gv.σ = ((0 :: K).length : Int) := by show ((kz ((Gv.σ 0).drop ((SE.v 1).eval Gv.σ).toNat)).length : Int) = _; rw [hv1, hR, hk0 _ (by omega : p = p)]
  have e2 : (SE.rd (.s 0) (.v 1)).eval Gv.σ = (40 : Int) := by show (Gv.σ 0).getD ((SE.v 1).eval Gv.σ).toNat 0 = _; rw [hv1, hR]; exact hc0 _ (by omega)
  have e3 : (SE.bin 0 .i64 (.v 1) (.c 0)).eval Gv.σ = (p + (0 : Int)) := by show IntKind.i64.wrap ((SE.v 1).eval Gv.σ + (SE.c 0).eval Gv.σ) = _; rw [hv1, evC (0), wrap64 (by omega)]
  have e4 : (SE.rd (.s 0) (.bin 0 .i64 (.v 1) (.c 0))).eval Gv.σ = (40 : Int) := by show (Gv.σ 0).getD ((SE.bin 0 .i64 (.v 1) (.c 0)).eval Gv.σ).toNat 0 = _; rw [e3, hR]; exact hc0 _ (by omega)
  have e5 : (SE.bin 0 .i64 (.v 1) (.c 1)).eval Gv.σ = (p + (1 : Int)) := by show IntKind.i64.wrap ((SE.v 1).eval Gv.σ + (SE.c 1).eval Gv.σ) = _; rw [hv1, evC (1), wrap64 (by omega)]
  have e6 : (SE.rd (.s 0) (.bin 0 .i64 (.v 1) (.c 1))).eval Gv.σ = x := by show (Gv.σ 0).getD ((SE.bin 0 .i64 (.v 1) (.c 1)).eval Gv.σ).toNat 0 = _; rw [e5, hR]; exact hn _ (by omega)
  have e7 : (SE.bin 0 .i64 (.bin 0 .i64 (.v 1) (.c 1)) (.c 0)).eval Gv.σ = ((p + (1 : Int)) + (0 : Int)) := by show IntKind.i64.wrap ((SE.bin 0 .i64 (.v 1) (.c 1)).eval Gv.σ + (SE.c 0).eval Gv.σ) = _; rw [e5, evC (0), wrap64 (by omega)]
  have e8 : (SE.rd (.s 0) (.bin 0 .i64 (.bin 0 .i64 (.v 1) (.c 1)) (.c 0))).eval Gv.σ = x := by show (Gv.σ 0).getD ((SE.bin 0 .i64 (.bin 0 .i64 (.v 1) (.c 1)) (.c 0)).eval Gv.σ).toNat 0 = _; rw [e7, hR]; exact hn _ (by omega)
  have e9 : (SE.bin 0 .i64 (.v 2) (.c 1)).eval Gv.σ = (o + (1 : Int)) := by show IntKind.i64.wrap ((SE.v 2).eval Gv.σ + (SE.c 1).eval Gv.σ) = _; rw [hv2, evC (1), wrap64 (by omega)]
  have e10 : (SE.app 15 (.g (.s 0) (.i (.bin 0 .i64 (.v 1) (.c 1)) .nil))).eval Gv.σ = ((K).length : Int) := by show ((kz ((Gv.σ 0).drop ((SE.bin 0 .i64 (.v 1) (.c 1)).eval Gv.σ).toNat)).length : Int) = _; rw [e5, hR, hk1 _ (by omega : (p + (1 : Int)) = (p + 1))]
  have e11 : (SE.bin 6 .i64 (.bin 0 .i64 (.v 1) (.c 1)) (.c 1)).eval Gv.σ = ((p + (1 : Int)) + (1 : Int)) := by show (SE.bin 0 .i64 (.v 1) (.c 1)).eval Gv.σ + (SE.c 1).eval Gv.σ = _; rw [e5, evC (1)]
  have e12 : (SE.rd (.s 0) (.bin 6 .i64 (.bin 0 .i64 (.v 1) (.c 1)) (.c 1))).eval Gv.σ = (41 : Int) := by show (Gv.σ 0).getD ((SE.bin 6 .i64 (.bin 0 .i64 (.v 1) (.c 1)) (.c 1)).eval Gv.σ).toNat 0 = _; rw [e11, hR]; exact hcl _ (by omega)
  have e13 : (SE.bin 0 .i64 (.bin 6 .i64 (.bin 0 .i64 (.v 1) (.c 1)) (.c 1)) (.c 0)).eval Gv.σ = (((p + (1 : Int)) + (1 : Int)) + (0 : Int)) := by show IntKind.i64.wrap ((SE.bin 6 .i64 (.bin 0 .i64 (.v 1) (.c 1)) (.c 1)).eval Gv.σ + (SE.c 0).eval Gv.σ) = _; rw [e11, evC (0), wrap64 (by omega)]
  have e14 : (SE.rd (.s 0) (.bin 0 .i64 (.bin 6 .i64 (.bin 0 .i64 (.v 1) (.c 1)) (.c 1)) (.c 0))).eval Gv.σ = (41 : Int) := by show (Gv.σ 0).getD ((SE.bin 0 .i64 (.bin 6 .i64 (.bin 0 .i64 (.v 1) (.c 1)) (.c 1)) (.c 0)).eval Gv.σ).toNat 0 = _; rw [e13, hR]; exact hcl _ (by omega)
  have e15 : (SE.bin 0 .i64 (.bin 6 .i64 (.bin 0 .i64 (.v 1) (.c 1)) (.c 1)) (.c 1)).eval Gv.σ = (((p + (1 : Int)) + (1 : Int)) + (1 : Int)) := by show IntKind.i64.wrap ((SE.bin 6 .i64 (.bin 0 .i64 (.v 1) (.c 1)) (.c 1)).eval Gv.σ + (SE.c 1).eval Gv.σ) = _; rw [e11, evC (1), wrap64 (by omega)]
  have e16 : (SE.app 17 (.g (.s 0) (.i (.v 1) .nil))).eval Gv.σ = (p + ((txt (0 :: K)).length : Int)) := by show (SE.v 1).eval Gv.σ + ((txt (kz ((Gv.σ 0).drop ((SE.v 1).eval Gv.σ).toNat))).length : Int) = _; rw [hv1, hR, hk0 _ (by omega : p = p)]
  have e17 : (SE.bin 1 .i64 (.bin 0 .i64 (.v 2) (.c 1)) (.c 1)).eval Gv.σ = ((o + (1 : Int)) - (1 : Int)) := by show IntKind.i64.wrap ((SE.bin 0 .i64 (.v 2) (.c 1)).eval Gv.σ - (SE.c 1).eval Gv.σ) = _; rw [e9, evC (1), wrap64 (by omega)]
  have e18 : (SE.app 18 (.g (.s 0) (.i (.v 1) .nil))).eval Gv.σ = (manyK (0 :: K) : Int) := by show (manyK (kz ((Gv.σ 0).drop ((SE.v 1).eval Gv.σ).toNat)) : Int) = _; rw [hv1, hR, hk0 _ (by omega : p = p)]
  have e19 : (SE.app 19 (.g (.s 0) (.i (.v 1) .nil))).eval Gv.σ = (usedK (0 :: K) : Int) := by show (usedK (kz ((Gv.σ 0).drop ((SE.v 1).eval Gv.σ).toNat)) : Int) = _; rw [hv1, hR, hk0 _ (by omega : p = p)]
  have e20 : (SE.app 24 (.g (.s 0) (.i (.v 1) .nil))).eval Gv.σ = kindW (0 :: K) := by show kindW (kz ((Gv.σ 0).drop ((SE.v 1).eval Gv.σ).toNat)) = _; rw [hv1, hR, hk0 _ (by omega : p = p)]
  have e21 : (SE.bin 6 .i64 (.app 18 (.g (.s 0) (.i (.v 1) .nil))) (.c (-1))).eval Gv.σ = ((manyK (0 :: K) : Int) + (-1 : Int)) := by show (SE.app 18 (.g (.s 0) (.i (.v 1) .nil))).eval Gv.σ + (SE.c (-1)).eval Gv.σ = _; rw [e18, evC (-1)]
  refine tm_of_run (n := 2000) (A := A_r00) (T := [(276, 260)]) (E := E_r00) (hooksTM_ok _ (two_mem h0 h1)) (lpT_ok [kLt] (one_mem k_ok)) ?_ ?_ rfl rfl (by kernel_rfl)
  · unfold A_r00; simp only [sall_cons]
    exact ⟨hA _ (List.mem_singleton.2 rfl),
      holdsN (by rw [e1, evC (0)] <;> omega),
      holdsT (by rw [evC (0), e1] <;> omega),
      holdsT (by rw [hv1, hvL] <;> omega),
      holdsF (by rw [hv1, evC (0)] <;> omega),
      holdsN (by rw [e2, evC (59)] <;> omega),
      holdsN (by rw [e2, evC (9)] <;> omega),
      holdsN (by rw [e2, evC (10)] <;> omega),
      holdsN (by rw [e2, evC (12)] <;> omega),
      holdsN (by rw [e2, evC (13)] <;> omega),
      holdsN (by rw [e2, evC (32)] <;> omega),
      holdsT (by rw [e3, hvL] <;> omega),
      holdsF (by rw [e3, evC (0)] <;> omega),
      holdsF (by rw [e4, evC (0)] <;> omega),
      holdsE (by rw [e4, evC (40)] <;> omega),
      holdsT (by rw [hv2, evC (200)] <;> omega),
      holdsT (by rw [e5, hvL] <;> omega),
      holdsF (by rw [e5, evC (0)] <;> omega),
      holdsN (by rw [e6, evC (59)] <;> omega),
      holdsN (by rw [e6, evC (9)] <;> omega),
      holdsN (by rw [e6, evC (10)] <;> omega),
      holdsN (by rw [e6, evC (12)] <;> omega),
      holdsN (by rw [e6, evC (13)] <;> omega),
      holdsN (by rw [e6, evC (32)] <;> omega),
      holdsT (by rw [e7, hvL] <;> omega),
      holdsF (by rw [e7, evC (0)] <;> omega),
      holdsF (by rw [e8, evC (0)] <;> omega),
      holdsN (by rw [e8, evC (41)] <;> omega),
      holdsN (by rw [e8, evC (46)] <;> omega),
      d_inv.2 (by rw [e5, e9]; show deepR (Gv.σ 0) _ _; rw [hR]; exact hnext _ _ (by omega) (by omega)),
      holdsE (by rw [e10, evC (0)] <;> omega),
      holdsT (by rw [e10, e1] <;> omega),
      holdsF (by rw [e10, evC (0)] <;> omega),
      holdsT (by rw [e11, hvL] <;> omega),
      holdsF (by rw [e11, evC (0)] <;> omega),
      holdsN (by rw [e12, evC (59)] <;> omega),
      holdsN (by rw [e12, evC (9)] <;> omega),
      holdsN (by rw [e12, evC (10)] <;> omega),
      holdsN (by rw [e12, evC (12)] <;> omega),
      holdsN (by rw [e12, evC (13)] <;> omega),
      holdsN (by rw [e12, evC (32)] <;> omega),
      holdsT (by rw [e13, hvL] <;> omega),
      holdsF (by rw [e13, evC (0)] <;> omega),
      holdsF (by rw [e14, evC (0)] <;> omega),
      holdsE (by rw [e14, evC (41)] <;> omega), SAll.nil⟩
  · exact ⟨by rw [e15, e16] <;> omega, by rw [e17, hv2] <;> omega, by rw [evC (1), e18] <;> omega, by rw [evC (0), e19] <;> omega, by rw [evC (2), e20] <;> omega, by rw [evC (0), e21] <;> omega, trivial⟩
noncomputable def A_r01 : List SA := [.mk false (.app 14 (.g (.s 0) (.i (.v 1) (.i (.v 2) .nil)))) (.c 1) true, .mk false (.app 15 (.g (.s 0) (.i (.v 1) .nil))) (.c 0) false, .mk true (.c 0) (.app 15 (.g (.s 0) (.i (.v 1) .nil))) true, .mk true (.v 1) (.len (.s 0)) true, .mk true (.v 1) (.c 0) false, .mk false (.rd (.s 0) (.v 1)) (.c 59) false, .mk false (.rd (.s 0) (.v 1)) (.c 9) false, .mk false (.rd (.s 0) (.v 1)) (.c 10) false, .mk false (.rd (.s 0) (.v 1)) (.c 12) false, .mk false (.rd (.s 0) (.v 1)) (.c 13) false, .mk false (.rd (.s 0) (.v 1)) (.c 32) false, .mk true (.bin 0 .i64 (.v 1) (.c 0)) (.len (.s 0)) true, .mk true (.bin 0 .i64 (.v 1) (.c 0)) (.c 0) false, .mk true (.rd (.s 0) (.bin 0 .i64 (.v 1) (.c 0))) (.c 0) false, .mk false (.rd (.s 0) (.bin 0 .i64 (.v 1) (.c 0))) (.c 40) true, .mk true (.v 2) (.c 200) true, .mk true (.bin 0 .i64 (.v 1) (.c 1)) (.len (.s 0)) true, .mk true (.bin 0 .i64 (.v 1) (.c 1)) (.c 0) false, .mk false (.rd (.s 0) (.bin 0 .i64 (.v 1) (.c 1))) (.c 59) false, .mk false (.rd (.s 0) (.bin 0 .i64 (.v 1) (.c 1))) (.c 9) false, .mk false (.rd (.s 0) (.bin 0 .i64 (.v 1) (.c 1))) (.c 10) false, .mk false (.rd (.s 0) (.bin 0 .i64 (.v 1) (.c 1))) (.c 12) false, .mk false (.rd (.s 0) (.bin 0 .i64 (.v 1) (.c 1))) (.c 13) false, .mk false (.rd (.s 0) (.bin 0 .i64 (.v 1) (.c 1))) (.c 32) false, .mk true (.bin 0 .i64 (.bin 0 .i64 (.v 1) (.c 1)) (.c 0)) (.len (.s 0)) true, .mk true (.bin 0 .i64 (.bin 0 .i64 (.v 1) (.c 1)) (.c 0)) (.c 0) false, .mk true (.rd (.s 0) (.bin 0 .i64 (.bin 0 .i64 (.v 1) (.c 1)) (.c 0))) (.c 0) false, .mk false (.rd (.s 0) (.bin 0 .i64 (.bin 0 .i64 (.v 1) (.c 1)) (.c 0))) (.c 41) false, .mk false (.rd (.s 0) (.bin 0 .i64 (.bin 0 .i64 (.v 1) (.c 1)) (.c 0))) (.c 46) false, .mk false (.app 14 (.g (.s 0) (.i (.bin 0 .i64 (.v 1) (.c 1)) (.i (.bin 0 .i64 (.v 2) (.c 1)) .nil)))) (.c 1) true, .mk false (.app 15 (.g (.s 0) (.i (.bin 0 .i64 (.v 1) (.c 1)) .nil))) (.c 0) false, .mk true (.c 0) (.app 15 (.g (.s 0) (.i (.bin 0 .i64 (.v 1) (.c 1)) .nil))) true, .mk true (.app 15 (.g (.s 0) (.i (.bin 0 .i64 (.v 1) (.c 1)) .nil))) (.app 15 (.g (.s 0) (.i (.v 1) .nil))) true, .mk true (.app 15 (.g (.s 0) (.i (.bin 0 .i64 (.v 1) (.c 1)) .nil))) (.c 0) false, .mk true (.app 17 (.g (.s 0) (.i (.bin 0 .i64 (.v 1) (.c 1)) .nil))) (.len (.s 0)) true, .mk true (.app 17 (.g (.s 0) (.i (.bin 0 .i64 (.v 1) (.c 1)) .nil))) (.c 0) false, .mk false (.rd (.s 0) (.app 17 (.g (.s 0) (.i (.bin 0 .i64 (.v 1) (.c 1)) .nil)))) (.c 59) false, .mk false (.rd (.s 0) (.app 17 (.g (.s 0) (.i (.bin 0 .i64 (.v 1) (.c 1)) .nil)))) (.c 9) false, .mk false (.rd (.s 0) (.app 17 (.g (.s 0) (.i (.bin 0 .i64 (.v 1) (.c 1)) .nil)))) (.c 10) false, .mk false (.rd (.s 0) (.app 17 (.g (.s 0) (.i (.bin 0 .i64 (.v 1) (.c 1)) .nil)))) (.c 12) false, .mk false (.rd (.s 0) (.app 17 (.g (.s 0) (.i (.bin 0 .i64 (.v 1) (.c 1)) .nil)))) (.c 13) false, .mk false (.rd (.s 0) (.app 17 (.g (.s 0) (.i (.bin 0 .i64 (.v 1) (.c 1)) .nil)))) (.c 32) false, .mk true (.bin 0 .i64 (.app 17 (.g (.s 0) (.i (.bin 0 .i64 (.v 1) (.c 1)) .nil))) (.c 0)) (.len (.s 0)) true, .mk true (.bin 0 .i64 (.app 17 (.g (.s 0) (.i (.bin 0 .i64 (.v 1) (.c 1)) .nil))) (.c 0)) (.c 0) false, .mk true (.rd (.s 0) (.bin 0 .i64 (.app 17 (.g (.s 0) (.i (.bin 0 .i64 (.v 1) (.c 1)) .nil))) (.c 0))) (.c 0) false, .mk false (.rd (.s 0) (.bin 0 .i64 (.app 17 (.g (.s 0) (.i (.bin 0 .i64 (.v 1) (.c 1)) .nil))) (.c 0))) (.c 41) true, .mk false (.app 18 (.g (.s 0) (.i (.bin 0 .i64 (.v 1) (.c 1)) .nil))) (.c 1200) false, .mk true (.c 1048576) (.bin 0 .i64 (.app 19 (.g (.s 0) (.i (.bin 0 .i64 (.v 1) (.c 1)) .nil))) (.c 0)) false, .mk true (.c 60000) (.bin 6 .i64 (.app 18 (.g (.s 0) (.i (.bin 0 .i64 (.v 1) (.c 1)) .nil))) (.c 1)) false]
noncomputable def E_r01 : EqL := (.i (.bin 0 .i64 (.app 17 (.g (.s 0) (.i (.bin 0 .i64 (.v 1) (.c 1)) .nil))) (.c 1)) (.app 17 (.g (.s 0) (.i (.v 1) .nil))) (.i (.bin 1 .i64 (.bin 0 .i64 (.v 2) (.c 1)) (.c 1)) (.v 2) (.i (.bin 0 .i64 (.app 18 (.g (.s 0) (.i (.bin 0 .i64 (.v 1) (.c 1)) .nil))) (.c 1)) (.app 18 (.g (.s 0) (.i (.v 1) .nil))) (.i (.bin 0 .i64 (.app 19 (.g (.s 0) (.i (.bin 0 .i64 (.v 1) (.c 1)) .nil))) (.c 0)) (.app 19 (.g (.s 0) (.i (.v 1) .nil))) (.i (.bin 6 .i64 (.app 18 (.g (.s 0) (.i (.bin 0 .i64 (.v 1) (.c 1)) .nil))) (.c 1)) (.app 18 (.g (.s 0) (.i (.v 1) .nil))) (.i (.c 2) (.app 24 (.g (.s 0) (.i (.v 1) .nil))) (.i (.app 18 (.g (.s 0) (.i (.bin 0 .i64 (.v 1) (.c 1)) .nil))) (.bin 6 .i64 (.app 18 (.g (.s 0) (.i (.v 1) .nil))) (.c (-1))) .nil)))))))
theorem f_r01 [Gv] (h0 : TmFact fT0) (h1 : TmFact fT1) {x : Int} (K : List Nat) (fc : FC 0 K x) (hK : K ≠ []) : FactT 37 fUs 260 fLi fR1 261 fLo := by
  obtain ⟨p, hp⟩ : ∃ p, p = (Gv.σ 1).headD 0 := ⟨_, rfl⟩
  obtain ⟨o, ho⟩ : ∃ o, o = (Gv.σ 2).headD 0 := ⟨_, rfl⟩
  obtain ⟨R, hR⟩ : ∃ R, Gv.σ 0 = R := ⟨_, rfl⟩
  have hv1 : (SE.v 1).eval Gv.σ = p := hp.symm
  have hv2 : (SE.v 2).eval Gv.σ = o := ho.symm
  have hvL : (SE.len (.s 0)).eval Gv.σ = (R.length : Int) := by show ((Gv.σ 0).length : Int) = _; rw [hR]
  obtain ⟨hA, hp0, ho0, hL, hd, hk0, hk1, hnext, hcs, hcl, hn, hx, hlen⟩ := fc.at hp ho hR
  have hc0 : ∀ y : Int, y = p + 0 → R.getD y.toNat 0 = 40 := hcs 0 (by decide)
  have hcl : ∀ y : Int, y = p + 1 + ((txt K).length : Int) → R.getD y.toNat 0 = 41 := fun y hy => hcl 0 (by decide) y (hy.trans (Int.add_zero _).symm)
  have hn : ∀ y : Int, y = p + 1 → R.getD y.toNat 0 = x := hn
  have hk1 : ∀ y : Int, y = p + 1 → kz (R.drop y.toNat) = K := hk1
  have hnext : ∀ y z : Int, y = p + 1 → z = o + 1 → deepR R y z := hnext
  have hm := many_le K
  have ht := txt_pos K
  have hlen : p + 1 + ((txt K).length : Int) + 1 ≤ (R.length : Int) := hlen
  have hd : o + 1 + (K.length : Int) ≤ 200 := hd
  have hK1 : 1 ≤ K.length := List.length_pos_iff.2 hK
  have q1 : ((0 :: K).length : Int) = (K.length : Int) + 1 := by simp
  have q2 : ((txt (0 :: K)).length : Int) = 1 + (txt K).length + 1 := by simp only [txt, opn, clo, List.length_append, List.length_cons, List.length_nil]; omega
  have q3 : (manyK (0 :: K) : Int) = 1 + (manyK K : Int) := by show ((1 + manyK K : Nat) : Int) = _; omega
  have q4 : (usedK (0 :: K) : Int) = 0 + (usedK K : Int) := by show ((0 + usedK K : Nat) : Int) = _; omega
  have q5 : kindW (0 :: K) = 2 := rfl
  have e1 : (SE.app 15 (.g (.s 0) (.i (.v 1) .nil))).eval Gv.σ = ((0 :: K).length : Int) := by show ((kz ((Gv.σ 0).drop ((SE.v 1).eval Gv.σ).toNat)).length : Int) = _; rw [hv1, hR, hk0 _ (by omega : p = p)]
  have e2 : (SE.rd (.s 0) (.v 1)).eval Gv.σ = (40 : Int) := by show (Gv.σ 0).getD ((SE.v 1).eval Gv.σ).toNat 0 = _; rw [hv1, hR]; exact hc0 _ (by omega)
  have e3 : (SE.bin 0 .i64 (.v 1) (.c 0)).eval Gv.σ = (p + (0 : Int)) := by show IntKind.i64.wrap ((SE.v 1).eval Gv.σ + (SE.c 0).eval Gv.σ) = _; rw [hv1, evC (0), wrap64 (by omega)]
  have e4 : (SE.rd (.s 0) (.bin 0 .i64 (.v 1) (.c 0))).eval Gv.σ = (40 : Int) := by show (Gv.σ 0).getD ((SE.bin 0 .i64 (.v 1) (.c 0)).eval Gv.σ).toNat 0 = _; rw [e3, hR]; exact hc0 _ (by omega)
  have e5 : (SE.bin 0 .i64 (.v 1) (.c 1)).eval Gv.σ = (p + (1 : Int)) := by show IntKind.i64.wrap ((SE.v 1).eval Gv.σ + (SE.c 1).eval Gv.σ) = _; rw [hv1, evC (1), wrap64 (by omega)]
  have e6 : (SE.rd (.s 0) (.bin 0 .i64 (.v 1) (.c 1))).eval Gv.σ = x := by show (Gv.σ 0).getD ((SE.bin 0 .i64 (.v 1) (.c 1)).eval Gv.σ).toNat 0 = _; rw [e5, hR]; exact hn _ (by omega)
  have e7 : (SE.bin 0 .i64 (.bin 0 .i64 (.v 1) (.c 1)) (.c 0)).eval Gv.σ = ((p + (1 : Int)) + (0 : Int)) := by show IntKind.i64.wrap ((SE.bin 0 .i64 (.v 1) (.c 1)).eval Gv.σ + (SE.c 0).eval Gv.σ) = _; rw [e5, evC (0), wrap64 (by omega)]
  have e8 : (SE.rd (.s 0) (.bin 0 .i64 (.bin 0 .i64 (.v 1) (.c 1)) (.c 0))).eval Gv.σ = x := by show (Gv.σ 0).getD ((SE.bin 0 .i64 (.bin 0 .i64 (.v 1) (.c 1)) (.c 0)).eval Gv.σ).toNat 0 = _; rw [e7, hR]; exact hn _ (by omega)
  have e9 : (SE.bin 0 .i64 (.v 2) (.c 1)).eval Gv.σ = (o + (1 : Int)) := by show IntKind.i64.wrap ((SE.v 2).eval Gv.σ + (SE.c 1).eval Gv.σ) = _; rw [hv2, evC (1), wrap64 (by omega)]
  have e10 : (SE.app 15 (.g (.s 0) (.i (.bin 0 .i64 (.v 1) (.c 1)) .nil))).eval Gv.σ = ((K).length : Int) := by show ((kz ((Gv.σ 0).drop ((SE.bin 0 .i64 (.v 1) (.c 1)).eval Gv.σ).toNat)).length : Int) = _; rw [e5, hR, hk1 _ (by omega : (p + (1 : Int)) = (p + 1))]
  have e11 : (SE.app 17 (.g (.s 0) (.i (.bin 0 .i64 (.v 1) (.c 1)) .nil))).eval Gv.σ = ((p + (1 : Int)) + ((txt (K)).length : Int)) := by show (SE.bin 0 .i64 (.v 1) (.c 1)).eval Gv.σ + ((txt (kz ((Gv.σ 0).drop ((SE.bin 0 .i64 (.v 1) (.c 1)).eval Gv.σ).toNat))).length : Int) = _; rw [e5, hR, hk1 _ (by omega : (p + (1 : Int)) = (p + 1))]
  have e12 : (SE.rd (.s 0) (.app 17 (.g (.s 0) (.i (.bin 0 .i64 (.v 1) (.c 1)) .nil)))).eval Gv.σ = (41 : Int) := by show (Gv.σ 0).getD ((SE.app 17 (.g (.s 0) (.i (.bin 0 .i64 (.v 1) (.c 1)) .nil))).eval Gv.σ).toNat 0 = _; rw [e11, hR]; exact hcl _ (by omega)
  have e13 : (SE.bin 0 .i64 (.app 17 (.g (.s 0) (.i (.bin 0 .i64 (.v 1) (.c 1)) .nil))) (.c 0)).eval Gv.σ = (((p + (1 : Int)) + ((txt (K)).length : Int)) + (0 : Int)) := by show IntKind.i64.wrap ((SE.app 17 (.g (.s 0) (.i (.bin 0 .i64 (.v 1) (.c 1)) .nil))).eval Gv.σ + (SE.c 0).eval Gv.σ) = _; rw [e11, evC (0), wrap64 (by omega)]
  have e14 : (SE.rd (.s 0) (.bin 0 .i64 (.app 17 (.g (.s 0) (.i (.bin 0 .i64 (.v 1) (.c 1)) .nil))) (.c 0))).eval Gv.σ = (41 : Int) := by show (Gv.σ 0).getD ((SE.bin 0 .i64 (.app 17 (.g (.s 0) (.i (.bin 0 .i64 (.v 1) (.c 1)) .nil))) (.c 0)).eval Gv.σ).toNat 0 = _; rw [e13, hR]; exact hcl _ (by omega)
  have e15 : (SE.app 18 (.g (.s 0) (.i (.bin 0 .i64 (.v 1) (.c 1)) .nil))).eval Gv.σ = (manyK (K) : Int) := by show (manyK (kz ((Gv.σ 0).drop ((SE.bin 0 .i64 (.v 1) (.c 1)).eval Gv.σ).toNat)) : Int) = _; rw [e5, hR, hk1 _ (by omega : (p + (1 : Int)) = (p + 1))]
  have e17 : (SE.app 19 (.g (.s 0) (.i (.bin 0 .i64 (.v 1) (.c 1)) .nil))).eval Gv.σ = (usedK (K) : Int) := by show (usedK (kz ((Gv.σ 0).drop ((SE.bin 0 .i64 (.v 1) (.c 1)).eval Gv.σ).toNat)) : Int) = _; rw [e5, hR, hk1 _ (by omega : (p + (1 : Int)) = (p + 1))]
  have e16 : (SE.bin 0 .i64 (.app 19 (.g (.s 0) (.i (.bin 0 .i64 (.v 1) (.c 1)) .nil))) (.c 0)).eval Gv.σ = ((usedK (K) : Int) + (0 : Int)) := by show IntKind.i64.wrap ((SE.app 19 (.g (.s 0) (.i (.bin 0 .i64 (.v 1) (.c 1)) .nil))).eval Gv.σ + (SE.c 0).eval Gv.σ) = _; rw [e17, evC (0), wrap64 (by omega)]
  have e18 : (SE.bin 6 .i64 (.app 18 (.g (.s 0) (.i (.bin 0 .i64 (.v 1) (.c 1)) .nil))) (.c 1)).eval Gv.σ = ((manyK (K) : Int) + (1 : Int)) := by show (SE.app 18 (.g (.s 0) (.i (.bin 0 .i64 (.v 1) (.c 1)) .nil))).eval Gv.σ + (SE.c 1).eval Gv.σ = _; rw [e15, evC (1)]
  have e19 : (SE.bin 0 .i64 (.app 17 (.g (.s 0) (.i (.bin 0 .i64 (.v 1) (.c 1)) .nil))) (.c 1)).eval Gv.σ = (((p + (1 : Int)) + ((txt (K)).length : Int)) + (1 : Int)) := by show IntKind.i64.wrap ((SE.app 17 (.g (.s 0) (.i (.bin 0 .i64 (.v 1) (.c 1)) .nil))).eval Gv.σ + (SE.c 1).eval Gv.σ) = _; rw [e11, evC (1), wrap64 (by omega)]
  have e20 : (SE.app 17 (.g (.s 0) (.i (.v 1) .nil))).eval Gv.σ = (p + ((txt (0 :: K)).length : Int)) := by show (SE.v 1).eval Gv.σ + ((txt (kz ((Gv.σ 0).drop ((SE.v 1).eval Gv.σ).toNat))).length : Int) = _; rw [hv1, hR, hk0 _ (by omega : p = p)]
  have e21 : (SE.bin 1 .i64 (.bin 0 .i64 (.v 2) (.c 1)) (.c 1)).eval Gv.σ = ((o + (1 : Int)) - (1 : Int)) := by show IntKind.i64.wrap ((SE.bin 0 .i64 (.v 2) (.c 1)).eval Gv.σ - (SE.c 1).eval Gv.σ) = _; rw [e9, evC (1), wrap64 (by omega)]
  have e22 : (SE.bin 0 .i64 (.app 18 (.g (.s 0) (.i (.bin 0 .i64 (.v 1) (.c 1)) .nil))) (.c 1)).eval Gv.σ = ((manyK (K) : Int) + (1 : Int)) := by show IntKind.i64.wrap ((SE.app 18 (.g (.s 0) (.i (.bin 0 .i64 (.v 1) (.c 1)) .nil))).eval Gv.σ + (SE.c 1).eval Gv.σ) = _; rw [e15, evC (1), wrap64 (by omega)]
  have e23 : (SE.app 18 (.g (.s 0) (.i (.v 1) .nil))).eval Gv.σ = (manyK (0 :: K) : Int) := by show (manyK (kz ((Gv.σ 0).drop ((SE.v 1).eval Gv.σ).toNat)) : Int) = _; rw [hv1, hR, hk0 _ (by omega : p = p)]
  have e24 : (SE.app 19 (.g (.s 0) (.i (.v 1) .nil))).eval Gv.σ = (usedK (0 :: K) : Int) := by show (usedK (kz ((Gv.σ 0).drop ((SE.v 1).eval Gv.σ).toNat)) : Int) = _; rw [hv1, hR, hk0 _ (by omega : p = p)]
  have e25 : (SE.app 24 (.g (.s 0) (.i (.v 1) .nil))).eval Gv.σ = kindW (0 :: K) := by show kindW (kz ((Gv.σ 0).drop ((SE.v 1).eval Gv.σ).toNat)) = _; rw [hv1, hR, hk0 _ (by omega : p = p)]
  have e26 : (SE.bin 6 .i64 (.app 18 (.g (.s 0) (.i (.v 1) .nil))) (.c (-1))).eval Gv.σ = ((manyK (0 :: K) : Int) + (-1 : Int)) := by show (SE.app 18 (.g (.s 0) (.i (.v 1) .nil))).eval Gv.σ + (SE.c (-1)).eval Gv.σ = _; rw [e23, evC (-1)]
  refine tm_of_run (n := 2000) (A := A_r01) (T := [(277, 260)]) (E := E_r01) (hooksTM_ok _ (two_mem h0 h1)) (lpT_ok [kLt] (one_mem k_ok)) ?_ ?_ rfl rfl (by kernel_rfl)
  · unfold A_r01; simp only [sall_cons]
    exact ⟨hA _ (List.mem_singleton.2 rfl),
      holdsN (by rw [e1, evC (0)] <;> omega),
      holdsT (by rw [evC (0), e1] <;> omega),
      holdsT (by rw [hv1, hvL] <;> omega),
      holdsF (by rw [hv1, evC (0)] <;> omega),
      holdsN (by rw [e2, evC (59)] <;> omega),
      holdsN (by rw [e2, evC (9)] <;> omega),
      holdsN (by rw [e2, evC (10)] <;> omega),
      holdsN (by rw [e2, evC (12)] <;> omega),
      holdsN (by rw [e2, evC (13)] <;> omega),
      holdsN (by rw [e2, evC (32)] <;> omega),
      holdsT (by rw [e3, hvL] <;> omega),
      holdsF (by rw [e3, evC (0)] <;> omega),
      holdsF (by rw [e4, evC (0)] <;> omega),
      holdsE (by rw [e4, evC (40)] <;> omega),
      holdsT (by rw [hv2, evC (200)] <;> omega),
      holdsT (by rw [e5, hvL] <;> omega),
      holdsF (by rw [e5, evC (0)] <;> omega),
      holdsN (by rw [e6, evC (59)] <;> omega),
      holdsN (by rw [e6, evC (9)] <;> omega),
      holdsN (by rw [e6, evC (10)] <;> omega),
      holdsN (by rw [e6, evC (12)] <;> omega),
      holdsN (by rw [e6, evC (13)] <;> omega),
      holdsN (by rw [e6, evC (32)] <;> omega),
      holdsT (by rw [e7, hvL] <;> omega),
      holdsF (by rw [e7, evC (0)] <;> omega),
      holdsF (by rw [e8, evC (0)] <;> omega),
      holdsN (by rw [e8, evC (41)] <;> omega),
      holdsN (by rw [e8, evC (46)] <;> omega),
      d_inv.2 (by rw [e5, e9]; show deepR (Gv.σ 0) _ _; rw [hR]; exact hnext _ _ (by omega) (by omega)),
      holdsN (by rw [e10, evC (0)] <;> omega),
      holdsT (by rw [evC (0), e10] <;> omega),
      holdsT (by rw [e10, e1] <;> omega),
      holdsF (by rw [e10, evC (0)] <;> omega),
      holdsT (by rw [e11, hvL] <;> omega),
      holdsF (by rw [e11, evC (0)] <;> omega),
      holdsN (by rw [e12, evC (59)] <;> omega),
      holdsN (by rw [e12, evC (9)] <;> omega),
      holdsN (by rw [e12, evC (10)] <;> omega),
      holdsN (by rw [e12, evC (12)] <;> omega),
      holdsN (by rw [e12, evC (13)] <;> omega),
      holdsN (by rw [e12, evC (32)] <;> omega),
      holdsT (by rw [e13, hvL] <;> omega),
      holdsF (by rw [e13, evC (0)] <;> omega),
      holdsF (by rw [e14, evC (0)] <;> omega),
      holdsE (by rw [e14, evC (41)] <;> omega),
      holdsN (by rw [e15, evC (1200)] <;> omega),
      holdsF (by rw [evC (1048576), e16] <;> omega),
      holdsF (by rw [evC (60000), e18] <;> omega), SAll.nil⟩
  · exact ⟨by rw [e19, e20] <;> omega, by rw [e21, hv2] <;> omega, by rw [e22, e23] <;> omega, by rw [e16, e24] <;> omega, by rw [e18, e23] <;> omega, by rw [evC (2), e25] <;> omega, by rw [e15, e26] <;> omega, trivial⟩
noncomputable def A_r10 : List SA := [.mk false (.app 14 (.g (.s 0) (.i (.v 1) (.i (.v 2) .nil)))) (.c 1) true, .mk false (.app 15 (.g (.s 0) (.i (.v 1) .nil))) (.c 0) false, .mk true (.c 0) (.app 15 (.g (.s 0) (.i (.v 1) .nil))) true, .mk true (.v 1) (.len (.s 0)) true, .mk true (.v 1) (.c 0) false, .mk false (.rd (.s 0) (.v 1)) (.c 59) false, .mk false (.rd (.s 0) (.v 1)) (.c 9) false, .mk false (.rd (.s 0) (.v 1)) (.c 10) false, .mk false (.rd (.s 0) (.v 1)) (.c 12) false, .mk false (.rd (.s 0) (.v 1)) (.c 13) false, .mk false (.rd (.s 0) (.v 1)) (.c 32) false, .mk true (.bin 0 .i64 (.v 1) (.c 0)) (.len (.s 0)) true, .mk true (.bin 0 .i64 (.v 1) (.c 0)) (.c 0) false, .mk true (.rd (.s 0) (.bin 0 .i64 (.v 1) (.c 0))) (.c 0) false, .mk false (.rd (.s 0) (.bin 0 .i64 (.v 1) (.c 0))) (.c 40) false, .mk false (.rd (.s 0) (.bin 0 .i64 (.v 1) (.c 0))) (.c 91) true, .mk true (.v 2) (.c 200) true, .mk true (.bin 0 .i64 (.v 1) (.c 1)) (.len (.s 0)) true, .mk true (.bin 0 .i64 (.v 1) (.c 1)) (.c 0) false, .mk false (.rd (.s 0) (.bin 0 .i64 (.v 1) (.c 1))) (.c 59) false, .mk false (.rd (.s 0) (.bin 0 .i64 (.v 1) (.c 1))) (.c 9) false, .mk false (.rd (.s 0) (.bin 0 .i64 (.v 1) (.c 1))) (.c 10) false, .mk false (.rd (.s 0) (.bin 0 .i64 (.v 1) (.c 1))) (.c 12) false, .mk false (.rd (.s 0) (.bin 0 .i64 (.v 1) (.c 1))) (.c 13) false, .mk false (.rd (.s 0) (.bin 0 .i64 (.v 1) (.c 1))) (.c 32) false, .mk true (.bin 0 .i64 (.bin 0 .i64 (.v 1) (.c 1)) (.c 0)) (.len (.s 0)) true, .mk true (.bin 0 .i64 (.bin 0 .i64 (.v 1) (.c 1)) (.c 0)) (.c 0) false, .mk false (.rd (.s 0) (.bin 0 .i64 (.bin 0 .i64 (.v 1) (.c 1)) (.c 0))) (.c 93) false, .mk false (.app 14 (.g (.s 0) (.i (.bin 0 .i64 (.v 1) (.c 1)) (.i (.bin 0 .i64 (.v 2) (.c 1)) .nil)))) (.c 1) true, .mk false (.app 15 (.g (.s 0) (.i (.bin 0 .i64 (.v 1) (.c 1)) .nil))) (.c 0) true, .mk true (.app 15 (.g (.s 0) (.i (.bin 0 .i64 (.v 1) (.c 1)) .nil))) (.app 15 (.g (.s 0) (.i (.v 1) .nil))) true, .mk true (.app 15 (.g (.s 0) (.i (.bin 0 .i64 (.v 1) (.c 1)) .nil))) (.c 0) false, .mk true (.bin 6 .i64 (.bin 0 .i64 (.v 1) (.c 1)) (.c 1)) (.len (.s 0)) true, .mk true (.bin 6 .i64 (.bin 0 .i64 (.v 1) (.c 1)) (.c 1)) (.c 0) false, .mk false (.rd (.s 0) (.bin 6 .i64 (.bin 0 .i64 (.v 1) (.c 1)) (.c 1))) (.c 59) false, .mk false (.rd (.s 0) (.bin 6 .i64 (.bin 0 .i64 (.v 1) (.c 1)) (.c 1))) (.c 9) false, .mk false (.rd (.s 0) (.bin 6 .i64 (.bin 0 .i64 (.v 1) (.c 1)) (.c 1))) (.c 10) false, .mk false (.rd (.s 0) (.bin 6 .i64 (.bin 0 .i64 (.v 1) (.c 1)) (.c 1))) (.c 12) false, .mk false (.rd (.s 0) (.bin 6 .i64 (.bin 0 .i64 (.v 1) (.c 1)) (.c 1))) (.c 13) false, .mk false (.rd (.s 0) (.bin 6 .i64 (.bin 0 .i64 (.v 1) (.c 1)) (.c 1))) (.c 32) false, .mk true (.bin 0 .i64 (.bin 6 .i64 (.bin 0 .i64 (.v 1) (.c 1)) (.c 1)) (.c 0)) (.len (.s 0)) true, .mk true (.bin 0 .i64 (.bin 6 .i64 (.bin 0 .i64 (.v 1) (.c 1)) (.c 1)) (.c 0)) (.c 0) false, .mk false (.rd (.s 0) (.bin 0 .i64 (.bin 6 .i64 (.bin 0 .i64 (.v 1) (.c 1)) (.c 1)) (.c 0))) (.c 93) true]
noncomputable def E_r10 : EqL := (.i (.bin 0 .i64 (.bin 6 .i64 (.bin 0 .i64 (.v 1) (.c 1)) (.c 1)) (.c 1)) (.app 17 (.g (.s 0) (.i (.v 1) .nil))) (.i (.bin 1 .i64 (.bin 0 .i64 (.v 2) (.c 1)) (.c 1)) (.v 2) (.i (.c 1) (.app 18 (.g (.s 0) (.i (.v 1) .nil))) (.i (.c 1) (.app 19 (.g (.s 0) (.i (.v 1) .nil))) (.i (.c 4) (.app 24 (.g (.s 0) (.i (.v 1) .nil))) (.i (.c 0) (.bin 6 .i64 (.app 18 (.g (.s 0) (.i (.v 1) .nil))) (.c (-1))) .nil))))))
theorem f_r10 [Gv] (h0 : TmFact fT0) (h1 : TmFact fT1) {x : Int} (K : List Nat) (fc : FC 1 K x) (hK : K = []) : FactT 37 fUs 260 fLi fR1 261 fLo := by
  obtain ⟨p, hp⟩ : ∃ p, p = (Gv.σ 1).headD 0 := ⟨_, rfl⟩
  obtain ⟨o, ho⟩ : ∃ o, o = (Gv.σ 2).headD 0 := ⟨_, rfl⟩
  obtain ⟨R, hR⟩ : ∃ R, Gv.σ 0 = R := ⟨_, rfl⟩
  have hv1 : (SE.v 1).eval Gv.σ = p := hp.symm
  have hv2 : (SE.v 2).eval Gv.σ = o := ho.symm
  have hvL : (SE.len (.s 0)).eval Gv.σ = (R.length : Int) := by show ((Gv.σ 0).length : Int) = _; rw [hR]
  obtain ⟨hA, hp0, ho0, hL, hd, hk0, hk1, hnext, hcs, hcl, hn, hx, hlen⟩ := fc.at hp ho hR
  have hc0 : ∀ y : Int, y = p + 0 → R.getD y.toNat 0 = 91 := hcs 0 (by decide)
  have hcl : ∀ y : Int, y = p + 1 + ((txt K).length : Int) → R.getD y.toNat 0 = 93 := fun y hy => hcl 0 (by decide) y (hy.trans (Int.add_zero _).symm)
  have hn : ∀ y : Int, y = p + 1 → R.getD y.toNat 0 = x := hn
  have hk1 : ∀ y : Int, y = p + 1 → kz (R.drop y.toNat) = K := hk1
  have hnext : ∀ y z : Int, y = p + 1 → z = o + 1 → deepR R y z := hnext
  have hm := many_le K
  have ht := txt_pos K
  have hlen : p + 1 + ((txt K).length : Int) + 1 ≤ (R.length : Int) := hlen
  have hd : o + 1 + (K.length : Int) ≤ 200 := hd
  have z1 : ((txt K).length : Int) = 1 := by rw [hK]; rfl
  have z2 : (manyK K : Int) = 0 := by rw [hK]; rfl
  have z3 : (usedK K : Int) = 0 := by rw [hK]; rfl
  have z4 : (K.length : Int) = 0 := by rw [hK]; rfl
  have q1 : ((1 :: K).length : Int) = (K.length : Int) + 1 := by simp
  have q2 : ((txt (1 :: K)).length : Int) = 1 + (txt K).length + 1 := by simp only [txt, opn, clo, List.length_append, List.length_cons, List.length_nil]; omega
  have q3 : (manyK (1 :: K) : Int) = 1 + (manyK K : Int) := by show ((1 + manyK K : Nat) : Int) = _; omega
  have q4 : (usedK (1 :: K) : Int) = 1 + (usedK K : Int) := by show ((1 + usedK K : Nat) : Int) = _; omega
  have q5 : kindW (1 :: K) = 4 := rfl
  have e1 : (SE.app 15 (.g (.s 0) (.i (.v 1) .nil))).eval Gv.σ = ((1 :: K).length : Int) := by show ((kz ((Gv.σ 0).drop ((SE.v 1).eval Gv.σ).toNat)).length : Int) = _; rw [hv1, hR, hk0 _ (by omega : p = p)]
  have e2 : (SE.rd (.s 0) (.v 1)).eval Gv.σ = (91 : Int) := by show (Gv.σ 0).getD ((SE.v 1).eval Gv.σ).toNat 0 = _; rw [hv1, hR]; exact hc0 _ (by omega)
  have e3 : (SE.bin 0 .i64 (.v 1) (.c 0)).eval Gv.σ = (p + (0 : Int)) := by show IntKind.i64.wrap ((SE.v 1).eval Gv.σ + (SE.c 0).eval Gv.σ) = _; rw [hv1, evC (0), wrap64 (by omega)]
  have e4 : (SE.rd (.s 0) (.bin 0 .i64 (.v 1) (.c 0))).eval Gv.σ = (91 : Int) := by show (Gv.σ 0).getD ((SE.bin 0 .i64 (.v 1) (.c 0)).eval Gv.σ).toNat 0 = _; rw [e3, hR]; exact hc0 _ (by omega)
  have e5 : (SE.bin 0 .i64 (.v 1) (.c 1)).eval Gv.σ = (p + (1 : Int)) := by show IntKind.i64.wrap ((SE.v 1).eval Gv.σ + (SE.c 1).eval Gv.σ) = _; rw [hv1, evC (1), wrap64 (by omega)]
  have e6 : (SE.rd (.s 0) (.bin 0 .i64 (.v 1) (.c 1))).eval Gv.σ = x := by show (Gv.σ 0).getD ((SE.bin 0 .i64 (.v 1) (.c 1)).eval Gv.σ).toNat 0 = _; rw [e5, hR]; exact hn _ (by omega)
  have e7 : (SE.bin 0 .i64 (.bin 0 .i64 (.v 1) (.c 1)) (.c 0)).eval Gv.σ = ((p + (1 : Int)) + (0 : Int)) := by show IntKind.i64.wrap ((SE.bin 0 .i64 (.v 1) (.c 1)).eval Gv.σ + (SE.c 0).eval Gv.σ) = _; rw [e5, evC (0), wrap64 (by omega)]
  have e8 : (SE.rd (.s 0) (.bin 0 .i64 (.bin 0 .i64 (.v 1) (.c 1)) (.c 0))).eval Gv.σ = x := by show (Gv.σ 0).getD ((SE.bin 0 .i64 (.bin 0 .i64 (.v 1) (.c 1)) (.c 0)).eval Gv.σ).toNat 0 = _; rw [e7, hR]; exact hn _ (by omega)
  have e9 : (SE.bin 0 .i64 (.v 2) (.c 1)).eval Gv.σ = (o + (1 : Int)) := by show IntKind.i64.wrap ((SE.v 2).eval Gv.σ + (SE.c 1).eval Gv.σ) = _; rw [hv2, evC (1), wrap64 (by omega)]
  have e10 : (SE.app 15 (.g (.s 0) (.i (.bin 0 .i64 (.v 1) (.c 1)) .nil))).eval Gv.σ = ((K).length : Int) := by show ((kz ((Gv.σ 0).drop ((SE.bin 0 .i64 (.v 1) (.c 1)).eval Gv.σ).toNat)).length : Int) = _; rw [e5, hR, hk1 _ (by omega : (p + (1 : Int)) = (p + 1))]
  have e11 : (SE.bin 6 .i64 (.bin 0 .i64 (.v 1) (.c 1)) (.c 1)).eval Gv.σ = ((p + (1 : Int)) + (1 : Int)) := by show (SE.bin 0 .i64 (.v 1) (.c 1)).eval Gv.σ + (SE.c 1).eval Gv.σ = _; rw [e5, evC (1)]
  have e12 : (SE.rd (.s 0) (.bin 6 .i64 (.bin 0 .i64 (.v 1) (.c 1)) (.c 1))).eval Gv.σ = (93 : Int) := by show (Gv.σ 0).getD ((SE.bin 6 .i64 (.bin 0 .i64 (.v 1) (.c 1)) (.c 1)).eval Gv.σ).toNat 0 = _; rw [e11, hR]; exact hcl _ (by omega)
  have e13 : (SE.bin 0 .i64 (.bin 6 .i64 (.bin 0 .i64 (.v 1) (.c 1)) (.c 1)) (.c 0)).eval Gv.σ = (((p + (1 : Int)) + (1 : Int)) + (0 : Int)) := by show IntKind.i64.wrap ((SE.bin 6 .i64 (.bin 0 .i64 (.v 1) (.c 1)) (.c 1)).eval Gv.σ + (SE.c 0).eval Gv.σ) = _; rw [e11, evC (0), wrap64 (by omega)]
  have e14 : (SE.rd (.s 0) (.bin 0 .i64 (.bin 6 .i64 (.bin 0 .i64 (.v 1) (.c 1)) (.c 1)) (.c 0))).eval Gv.σ = (93 : Int) := by show (Gv.σ 0).getD ((SE.bin 0 .i64 (.bin 6 .i64 (.bin 0 .i64 (.v 1) (.c 1)) (.c 1)) (.c 0)).eval Gv.σ).toNat 0 = _; rw [e13, hR]; exact hcl _ (by omega)
  have e15 : (SE.bin 0 .i64 (.bin 6 .i64 (.bin 0 .i64 (.v 1) (.c 1)) (.c 1)) (.c 1)).eval Gv.σ = (((p + (1 : Int)) + (1 : Int)) + (1 : Int)) := by show IntKind.i64.wrap ((SE.bin 6 .i64 (.bin 0 .i64 (.v 1) (.c 1)) (.c 1)).eval Gv.σ + (SE.c 1).eval Gv.σ) = _; rw [e11, evC (1), wrap64 (by omega)]
  have e16 : (SE.app 17 (.g (.s 0) (.i (.v 1) .nil))).eval Gv.σ = (p + ((txt (1 :: K)).length : Int)) := by show (SE.v 1).eval Gv.σ + ((txt (kz ((Gv.σ 0).drop ((SE.v 1).eval Gv.σ).toNat))).length : Int) = _; rw [hv1, hR, hk0 _ (by omega : p = p)]
  have e17 : (SE.bin 1 .i64 (.bin 0 .i64 (.v 2) (.c 1)) (.c 1)).eval Gv.σ = ((o + (1 : Int)) - (1 : Int)) := by show IntKind.i64.wrap ((SE.bin 0 .i64 (.v 2) (.c 1)).eval Gv.σ - (SE.c 1).eval Gv.σ) = _; rw [e9, evC (1), wrap64 (by omega)]
  have e18 : (SE.app 18 (.g (.s 0) (.i (.v 1) .nil))).eval Gv.σ = (manyK (1 :: K) : Int) := by show (manyK (kz ((Gv.σ 0).drop ((SE.v 1).eval Gv.σ).toNat)) : Int) = _; rw [hv1, hR, hk0 _ (by omega : p = p)]
  have e19 : (SE.app 19 (.g (.s 0) (.i (.v 1) .nil))).eval Gv.σ = (usedK (1 :: K) : Int) := by show (usedK (kz ((Gv.σ 0).drop ((SE.v 1).eval Gv.σ).toNat)) : Int) = _; rw [hv1, hR, hk0 _ (by omega : p = p)]
  have e20 : (SE.app 24 (.g (.s 0) (.i (.v 1) .nil))).eval Gv.σ = kindW (1 :: K) := by show kindW (kz ((Gv.σ 0).drop ((SE.v 1).eval Gv.σ).toNat)) = _; rw [hv1, hR, hk0 _ (by omega : p = p)]
  have e21 : (SE.bin 6 .i64 (.app 18 (.g (.s 0) (.i (.v 1) .nil))) (.c (-1))).eval Gv.σ = ((manyK (1 :: K) : Int) + (-1 : Int)) := by show (SE.app 18 (.g (.s 0) (.i (.v 1) .nil))).eval Gv.σ + (SE.c (-1)).eval Gv.σ = _; rw [e18, evC (-1)]
  refine tm_of_run (n := 2000) (A := A_r10) (T := [(271, 260)]) (E := E_r10) (hooksTM_ok _ (two_mem h0 h1)) (lpT_ok [kLt] (one_mem k_ok)) ?_ ?_ rfl rfl (by kernel_rfl)
  · unfold A_r10; simp only [sall_cons]
    exact ⟨hA _ (List.mem_singleton.2 rfl),
      holdsN (by rw [e1, evC (0)] <;> omega),
      holdsT (by rw [evC (0), e1] <;> omega),
      holdsT (by rw [hv1, hvL] <;> omega),
      holdsF (by rw [hv1, evC (0)] <;> omega),
      holdsN (by rw [e2, evC (59)] <;> omega),
      holdsN (by rw [e2, evC (9)] <;> omega),
      holdsN (by rw [e2, evC (10)] <;> omega),
      holdsN (by rw [e2, evC (12)] <;> omega),
      holdsN (by rw [e2, evC (13)] <;> omega),
      holdsN (by rw [e2, evC (32)] <;> omega),
      holdsT (by rw [e3, hvL] <;> omega),
      holdsF (by rw [e3, evC (0)] <;> omega),
      holdsF (by rw [e4, evC (0)] <;> omega),
      holdsN (by rw [e4, evC (40)] <;> omega),
      holdsE (by rw [e4, evC (91)] <;> omega),
      holdsT (by rw [hv2, evC (200)] <;> omega),
      holdsT (by rw [e5, hvL] <;> omega),
      holdsF (by rw [e5, evC (0)] <;> omega),
      holdsN (by rw [e6, evC (59)] <;> omega),
      holdsN (by rw [e6, evC (9)] <;> omega),
      holdsN (by rw [e6, evC (10)] <;> omega),
      holdsN (by rw [e6, evC (12)] <;> omega),
      holdsN (by rw [e6, evC (13)] <;> omega),
      holdsN (by rw [e6, evC (32)] <;> omega),
      holdsT (by rw [e7, hvL] <;> omega),
      holdsF (by rw [e7, evC (0)] <;> omega),
      holdsN (by rw [e8, evC (93)] <;> omega),
      d_inv.2 (by rw [e5, e9]; show deepR (Gv.σ 0) _ _; rw [hR]; exact hnext _ _ (by omega) (by omega)),
      holdsE (by rw [e10, evC (0)] <;> omega),
      holdsT (by rw [e10, e1] <;> omega),
      holdsF (by rw [e10, evC (0)] <;> omega),
      holdsT (by rw [e11, hvL] <;> omega),
      holdsF (by rw [e11, evC (0)] <;> omega),
      holdsN (by rw [e12, evC (59)] <;> omega),
      holdsN (by rw [e12, evC (9)] <;> omega),
      holdsN (by rw [e12, evC (10)] <;> omega),
      holdsN (by rw [e12, evC (12)] <;> omega),
      holdsN (by rw [e12, evC (13)] <;> omega),
      holdsN (by rw [e12, evC (32)] <;> omega),
      holdsT (by rw [e13, hvL] <;> omega),
      holdsF (by rw [e13, evC (0)] <;> omega),
      holdsE (by rw [e14, evC (93)] <;> omega), SAll.nil⟩
  · exact ⟨by rw [e15, e16] <;> omega, by rw [e17, hv2] <;> omega, by rw [evC (1), e18] <;> omega, by rw [evC (1), e19] <;> omega, by rw [evC (4), e20] <;> omega, by rw [evC (0), e21] <;> omega, trivial⟩
noncomputable def A_r11 : List SA := [.mk false (.app 14 (.g (.s 0) (.i (.v 1) (.i (.v 2) .nil)))) (.c 1) true, .mk false (.app 15 (.g (.s 0) (.i (.v 1) .nil))) (.c 0) false, .mk true (.c 0) (.app 15 (.g (.s 0) (.i (.v 1) .nil))) true, .mk true (.v 1) (.len (.s 0)) true, .mk true (.v 1) (.c 0) false, .mk false (.rd (.s 0) (.v 1)) (.c 59) false, .mk false (.rd (.s 0) (.v 1)) (.c 9) false, .mk false (.rd (.s 0) (.v 1)) (.c 10) false, .mk false (.rd (.s 0) (.v 1)) (.c 12) false, .mk false (.rd (.s 0) (.v 1)) (.c 13) false, .mk false (.rd (.s 0) (.v 1)) (.c 32) false, .mk true (.bin 0 .i64 (.v 1) (.c 0)) (.len (.s 0)) true, .mk true (.bin 0 .i64 (.v 1) (.c 0)) (.c 0) false, .mk true (.rd (.s 0) (.bin 0 .i64 (.v 1) (.c 0))) (.c 0) false, .mk false (.rd (.s 0) (.bin 0 .i64 (.v 1) (.c 0))) (.c 40) false, .mk false (.rd (.s 0) (.bin 0 .i64 (.v 1) (.c 0))) (.c 91) true, .mk true (.v 2) (.c 200) true, .mk true (.bin 0 .i64 (.v 1) (.c 1)) (.len (.s 0)) true, .mk true (.bin 0 .i64 (.v 1) (.c 1)) (.c 0) false, .mk false (.rd (.s 0) (.bin 0 .i64 (.v 1) (.c 1))) (.c 59) false, .mk false (.rd (.s 0) (.bin 0 .i64 (.v 1) (.c 1))) (.c 9) false, .mk false (.rd (.s 0) (.bin 0 .i64 (.v 1) (.c 1))) (.c 10) false, .mk false (.rd (.s 0) (.bin 0 .i64 (.v 1) (.c 1))) (.c 12) false, .mk false (.rd (.s 0) (.bin 0 .i64 (.v 1) (.c 1))) (.c 13) false, .mk false (.rd (.s 0) (.bin 0 .i64 (.v 1) (.c 1))) (.c 32) false, .mk true (.bin 0 .i64 (.bin 0 .i64 (.v 1) (.c 1)) (.c 0)) (.len (.s 0)) true, .mk true (.bin 0 .i64 (.bin 0 .i64 (.v 1) (.c 1)) (.c 0)) (.c 0) false, .mk false (.rd (.s 0) (.bin 0 .i64 (.bin 0 .i64 (.v 1) (.c 1)) (.c 0))) (.c 93) false, .mk false (.app 14 (.g (.s 0) (.i (.bin 0 .i64 (.v 1) (.c 1)) (.i (.bin 0 .i64 (.v 2) (.c 1)) .nil)))) (.c 1) true, .mk false (.app 15 (.g (.s 0) (.i (.bin 0 .i64 (.v 1) (.c 1)) .nil))) (.c 0) false, .mk true (.c 0) (.app 15 (.g (.s 0) (.i (.bin 0 .i64 (.v 1) (.c 1)) .nil))) true, .mk true (.app 15 (.g (.s 0) (.i (.bin 0 .i64 (.v 1) (.c 1)) .nil))) (.app 15 (.g (.s 0) (.i (.v 1) .nil))) true, .mk true (.app 15 (.g (.s 0) (.i (.bin 0 .i64 (.v 1) (.c 1)) .nil))) (.c 0) false, .mk true (.app 17 (.g (.s 0) (.i (.bin 0 .i64 (.v 1) (.c 1)) .nil))) (.len (.s 0)) true, .mk true (.app 17 (.g (.s 0) (.i (.bin 0 .i64 (.v 1) (.c 1)) .nil))) (.c 0) false, .mk false (.rd (.s 0) (.app 17 (.g (.s 0) (.i (.bin 0 .i64 (.v 1) (.c 1)) .nil)))) (.c 59) false, .mk false (.rd (.s 0) (.app 17 (.g (.s 0) (.i (.bin 0 .i64 (.v 1) (.c 1)) .nil)))) (.c 9) false, .mk false (.rd (.s 0) (.app 17 (.g (.s 0) (.i (.bin 0 .i64 (.v 1) (.c 1)) .nil)))) (.c 10) false, .mk false (.rd (.s 0) (.app 17 (.g (.s 0) (.i (.bin 0 .i64 (.v 1) (.c 1)) .nil)))) (.c 12) false, .mk false (.rd (.s 0) (.app 17 (.g (.s 0) (.i (.bin 0 .i64 (.v 1) (.c 1)) .nil)))) (.c 13) false, .mk false (.rd (.s 0) (.app 17 (.g (.s 0) (.i (.bin 0 .i64 (.v 1) (.c 1)) .nil)))) (.c 32) false, .mk true (.bin 0 .i64 (.app 17 (.g (.s 0) (.i (.bin 0 .i64 (.v 1) (.c 1)) .nil))) (.c 0)) (.len (.s 0)) true, .mk true (.bin 0 .i64 (.app 17 (.g (.s 0) (.i (.bin 0 .i64 (.v 1) (.c 1)) .nil))) (.c 0)) (.c 0) false, .mk false (.rd (.s 0) (.bin 0 .i64 (.app 17 (.g (.s 0) (.i (.bin 0 .i64 (.v 1) (.c 1)) .nil))) (.c 0))) (.c 93) true, .mk false (.app 18 (.g (.s 0) (.i (.bin 0 .i64 (.v 1) (.c 1)) .nil))) (.c 1200) false, .mk true (.c 1048576) (.bin 0 .i64 (.app 19 (.g (.s 0) (.i (.bin 0 .i64 (.v 1) (.c 1)) .nil))) (.c 1)) false, .mk true (.c 60000) (.bin 6 .i64 (.app 18 (.g (.s 0) (.i (.bin 0 .i64 (.v 1) (.c 1)) .nil))) (.c 1)) false]
noncomputable def E_r11 : EqL := (.i (.bin 0 .i64 (.app 17 (.g (.s 0) (.i (.bin 0 .i64 (.v 1) (.c 1)) .nil))) (.c 1)) (.app 17 (.g (.s 0) (.i (.v 1) .nil))) (.i (.bin 1 .i64 (.bin 0 .i64 (.v 2) (.c 1)) (.c 1)) (.v 2) (.i (.bin 0 .i64 (.app 18 (.g (.s 0) (.i (.bin 0 .i64 (.v 1) (.c 1)) .nil))) (.c 1)) (.app 18 (.g (.s 0) (.i (.v 1) .nil))) (.i (.bin 0 .i64 (.app 19 (.g (.s 0) (.i (.bin 0 .i64 (.v 1) (.c 1)) .nil))) (.c 1)) (.app 19 (.g (.s 0) (.i (.v 1) .nil))) (.i (.bin 6 .i64 (.app 18 (.g (.s 0) (.i (.bin 0 .i64 (.v 1) (.c 1)) .nil))) (.c 1)) (.app 18 (.g (.s 0) (.i (.v 1) .nil))) (.i (.c 4) (.app 24 (.g (.s 0) (.i (.v 1) .nil))) (.i (.app 18 (.g (.s 0) (.i (.bin 0 .i64 (.v 1) (.c 1)) .nil))) (.bin 6 .i64 (.app 18 (.g (.s 0) (.i (.v 1) .nil))) (.c (-1))) .nil)))))))
theorem f_r11 [Gv] (h0 : TmFact fT0) (h1 : TmFact fT1) {x : Int} (K : List Nat) (fc : FC 1 K x) (hK : K ≠ []) : FactT 37 fUs 260 fLi fR1 261 fLo := by
  obtain ⟨p, hp⟩ : ∃ p, p = (Gv.σ 1).headD 0 := ⟨_, rfl⟩
  obtain ⟨o, ho⟩ : ∃ o, o = (Gv.σ 2).headD 0 := ⟨_, rfl⟩
  obtain ⟨R, hR⟩ : ∃ R, Gv.σ 0 = R := ⟨_, rfl⟩
  have hv1 : (SE.v 1).eval Gv.σ = p := hp.symm
  have hv2 : (SE.v 2).eval Gv.σ = o := ho.symm
  have hvL : (SE.len (.s 0)).eval Gv.σ = (R.length : Int) := by show ((Gv.σ 0).length : Int) = _; rw [hR]
  obtain ⟨hA, hp0, ho0, hL, hd, hk0, hk1, hnext, hcs, hcl, hn, hx, hlen⟩ := fc.at hp ho hR
  have hc0 : ∀ y : Int, y = p + 0 → R.getD y.toNat 0 = 91 := hcs 0 (by decide)
  have hcl : ∀ y : Int, y = p + 1 + ((txt K).length : Int) → R.getD y.toNat 0 = 93 := fun y hy => hcl 0 (by decide) y (hy.trans (Int.add_zero _).symm)
  have hn : ∀ y : Int, y = p + 1 → R.getD y.toNat 0 = x := hn
  have hk1 : ∀ y : Int, y = p + 1 → kz (R.drop y.toNat) = K := hk1
  have hnext : ∀ y z : Int, y = p + 1 → z = o + 1 → deepR R y z := hnext
  have hm := many_le K
  have ht := txt_pos K
  have hlen : p + 1 + ((txt K).length : Int) + 1 ≤ (R.length : Int) := hlen
  have hd : o + 1 + (K.length : Int) ≤ 200 := hd
  have hK1 : 1 ≤ K.length := List.length_pos_iff.2 hK
  have q1 : ((1 :: K).length : Int) = (K.length : Int) + 1 := by simp
  have q2 : ((txt (1 :: K)).length : Int) = 1 + (txt K).length + 1 := by simp only [txt, opn, clo, List.length_append, List.length_cons, List.length_nil]; omega
  have q3 : (manyK (1 :: K) : Int) = 1 + (manyK K : Int) := by show ((1 + manyK K : Nat) : Int) = _; omega
  have q4 : (usedK (1 :: K) : Int) = 1 + (usedK K : Int) := by show ((1 + usedK K : Nat) : Int) = _; omega
  have q5 : kindW (1 :: K) = 4 := rfl
  have e1 : (SE.app 15 (.g (.s 0) (.i (.v 1) .nil))).eval Gv.σ = ((1 :: K).length : Int) := by show ((kz ((Gv.σ 0).drop ((SE.v 1).eval Gv.σ).toNat)).length : Int) = _; rw [hv1, hR, hk0 _ (by omega : p = p)]
  have e2 : (SE.rd (.s 0) (.v 1)).eval Gv.σ = (91 : Int) := by show (Gv.σ 0).getD ((SE.v 1).eval Gv.σ).toNat 0 = _; rw [hv1, hR]; exact hc0 _ (by omega)
  have e3 : (SE.bin 0 .i64 (.v 1) (.c 0)).eval Gv.σ = (p + (0 : Int)) := by show IntKind.i64.wrap ((SE.v 1).eval Gv.σ + (SE.c 0).eval Gv.σ) = _; rw [hv1, evC (0), wrap64 (by omega)]
  have e4 : (SE.rd (.s 0) (.bin 0 .i64 (.v 1) (.c 0))).eval Gv.σ = (91 : Int) := by show (Gv.σ 0).getD ((SE.bin 0 .i64 (.v 1) (.c 0)).eval Gv.σ).toNat 0 = _; rw [e3, hR]; exact hc0 _ (by omega)
  have e5 : (SE.bin 0 .i64 (.v 1) (.c 1)).eval Gv.σ = (p + (1 : Int)) := by show IntKind.i64.wrap ((SE.v 1).eval Gv.σ + (SE.c 1).eval Gv.σ) = _; rw [hv1, evC (1), wrap64 (by omega)]
  have e6 : (SE.rd (.s 0) (.bin 0 .i64 (.v 1) (.c 1))).eval Gv.σ = x := by show (Gv.σ 0).getD ((SE.bin 0 .i64 (.v 1) (.c 1)).eval Gv.σ).toNat 0 = _; rw [e5, hR]; exact hn _ (by omega)
  have e7 : (SE.bin 0 .i64 (.bin 0 .i64 (.v 1) (.c 1)) (.c 0)).eval Gv.σ = ((p + (1 : Int)) + (0 : Int)) := by show IntKind.i64.wrap ((SE.bin 0 .i64 (.v 1) (.c 1)).eval Gv.σ + (SE.c 0).eval Gv.σ) = _; rw [e5, evC (0), wrap64 (by omega)]
  have e8 : (SE.rd (.s 0) (.bin 0 .i64 (.bin 0 .i64 (.v 1) (.c 1)) (.c 0))).eval Gv.σ = x := by show (Gv.σ 0).getD ((SE.bin 0 .i64 (.bin 0 .i64 (.v 1) (.c 1)) (.c 0)).eval Gv.σ).toNat 0 = _; rw [e7, hR]; exact hn _ (by omega)
  have e9 : (SE.bin 0 .i64 (.v 2) (.c 1)).eval Gv.σ = (o + (1 : Int)) := by show IntKind.i64.wrap ((SE.v 2).eval Gv.σ + (SE.c 1).eval Gv.σ) = _; rw [hv2, evC (1), wrap64 (by omega)]
  have e10 : (SE.app 15 (.g (.s 0) (.i (.bin 0 .i64 (.v 1) (.c 1)) .nil))).eval Gv.σ = ((K).length : Int) := by show ((kz ((Gv.σ 0).drop ((SE.bin 0 .i64 (.v 1) (.c 1)).eval Gv.σ).toNat)).length : Int) = _; rw [e5, hR, hk1 _ (by omega : (p + (1 : Int)) = (p + 1))]
  have e11 : (SE.app 17 (.g (.s 0) (.i (.bin 0 .i64 (.v 1) (.c 1)) .nil))).eval Gv.σ = ((p + (1 : Int)) + ((txt (K)).length : Int)) := by show (SE.bin 0 .i64 (.v 1) (.c 1)).eval Gv.σ + ((txt (kz ((Gv.σ 0).drop ((SE.bin 0 .i64 (.v 1) (.c 1)).eval Gv.σ).toNat))).length : Int) = _; rw [e5, hR, hk1 _ (by omega : (p + (1 : Int)) = (p + 1))]
  have e12 : (SE.rd (.s 0) (.app 17 (.g (.s 0) (.i (.bin 0 .i64 (.v 1) (.c 1)) .nil)))).eval Gv.σ = (93 : Int) := by show (Gv.σ 0).getD ((SE.app 17 (.g (.s 0) (.i (.bin 0 .i64 (.v 1) (.c 1)) .nil))).eval Gv.σ).toNat 0 = _; rw [e11, hR]; exact hcl _ (by omega)
  have e13 : (SE.bin 0 .i64 (.app 17 (.g (.s 0) (.i (.bin 0 .i64 (.v 1) (.c 1)) .nil))) (.c 0)).eval Gv.σ = (((p + (1 : Int)) + ((txt (K)).length : Int)) + (0 : Int)) := by show IntKind.i64.wrap ((SE.app 17 (.g (.s 0) (.i (.bin 0 .i64 (.v 1) (.c 1)) .nil))).eval Gv.σ + (SE.c 0).eval Gv.σ) = _; rw [e11, evC (0), wrap64 (by omega)]
  have e14 : (SE.rd (.s 0) (.bin 0 .i64 (.app 17 (.g (.s 0) (.i (.bin 0 .i64 (.v 1) (.c 1)) .nil))) (.c 0))).eval Gv.σ = (93 : Int) := by show (Gv.σ 0).getD ((SE.bin 0 .i64 (.app 17 (.g (.s 0) (.i (.bin 0 .i64 (.v 1) (.c 1)) .nil))) (.c 0)).eval Gv.σ).toNat 0 = _; rw [e13, hR]; exact hcl _ (by omega)
  have e15 : (SE.app 18 (.g (.s 0) (.i (.bin 0 .i64 (.v 1) (.c 1)) .nil))).eval Gv.σ = (manyK (K) : Int) := by show (manyK (kz ((Gv.σ 0).drop ((SE.bin 0 .i64 (.v 1) (.c 1)).eval Gv.σ).toNat)) : Int) = _; rw [e5, hR, hk1 _ (by omega : (p + (1 : Int)) = (p + 1))]
  have e17 : (SE.app 19 (.g (.s 0) (.i (.bin 0 .i64 (.v 1) (.c 1)) .nil))).eval Gv.σ = (usedK (K) : Int) := by show (usedK (kz ((Gv.σ 0).drop ((SE.bin 0 .i64 (.v 1) (.c 1)).eval Gv.σ).toNat)) : Int) = _; rw [e5, hR, hk1 _ (by omega : (p + (1 : Int)) = (p + 1))]
  have e16 : (SE.bin 0 .i64 (.app 19 (.g (.s 0) (.i (.bin 0 .i64 (.v 1) (.c 1)) .nil))) (.c 1)).eval Gv.σ = ((usedK (K) : Int) + (1 : Int)) := by show IntKind.i64.wrap ((SE.app 19 (.g (.s 0) (.i (.bin 0 .i64 (.v 1) (.c 1)) .nil))).eval Gv.σ + (SE.c 1).eval Gv.σ) = _; rw [e17, evC (1), wrap64 (by omega)]
  have e18 : (SE.bin 6 .i64 (.app 18 (.g (.s 0) (.i (.bin 0 .i64 (.v 1) (.c 1)) .nil))) (.c 1)).eval Gv.σ = ((manyK (K) : Int) + (1 : Int)) := by show (SE.app 18 (.g (.s 0) (.i (.bin 0 .i64 (.v 1) (.c 1)) .nil))).eval Gv.σ + (SE.c 1).eval Gv.σ = _; rw [e15, evC (1)]
  have e19 : (SE.bin 0 .i64 (.app 17 (.g (.s 0) (.i (.bin 0 .i64 (.v 1) (.c 1)) .nil))) (.c 1)).eval Gv.σ = (((p + (1 : Int)) + ((txt (K)).length : Int)) + (1 : Int)) := by show IntKind.i64.wrap ((SE.app 17 (.g (.s 0) (.i (.bin 0 .i64 (.v 1) (.c 1)) .nil))).eval Gv.σ + (SE.c 1).eval Gv.σ) = _; rw [e11, evC (1), wrap64 (by omega)]
  have e20 : (SE.app 17 (.g (.s 0) (.i (.v 1) .nil))).eval Gv.σ = (p + ((txt (1 :: K)).length : Int)) := by show (SE.v 1).eval Gv.σ + ((txt (kz ((Gv.σ 0).drop ((SE.v 1).eval Gv.σ).toNat))).length : Int) = _; rw [hv1, hR, hk0 _ (by omega : p = p)]
  have e21 : (SE.bin 1 .i64 (.bin 0 .i64 (.v 2) (.c 1)) (.c 1)).eval Gv.σ = ((o + (1 : Int)) - (1 : Int)) := by show IntKind.i64.wrap ((SE.bin 0 .i64 (.v 2) (.c 1)).eval Gv.σ - (SE.c 1).eval Gv.σ) = _; rw [e9, evC (1), wrap64 (by omega)]
  have e22 : (SE.bin 0 .i64 (.app 18 (.g (.s 0) (.i (.bin 0 .i64 (.v 1) (.c 1)) .nil))) (.c 1)).eval Gv.σ = ((manyK (K) : Int) + (1 : Int)) := by show IntKind.i64.wrap ((SE.app 18 (.g (.s 0) (.i (.bin 0 .i64 (.v 1) (.c 1)) .nil))).eval Gv.σ + (SE.c 1).eval Gv.σ) = _; rw [e15, evC (1), wrap64 (by omega)]
  have e23 : (SE.app 18 (.g (.s 0) (.i (.v 1) .nil))).eval Gv.σ = (manyK (1 :: K) : Int) := by show (manyK (kz ((Gv.σ 0).drop ((SE.v 1).eval Gv.σ).toNat)) : Int) = _; rw [hv1, hR, hk0 _ (by omega : p = p)]
  have e24 : (SE.app 19 (.g (.s 0) (.i (.v 1) .nil))).eval Gv.σ = (usedK (1 :: K) : Int) := by show (usedK (kz ((Gv.σ 0).drop ((SE.v 1).eval Gv.σ).toNat)) : Int) = _; rw [hv1, hR, hk0 _ (by omega : p = p)]
  have e25 : (SE.app 24 (.g (.s 0) (.i (.v 1) .nil))).eval Gv.σ = kindW (1 :: K) := by show kindW (kz ((Gv.σ 0).drop ((SE.v 1).eval Gv.σ).toNat)) = _; rw [hv1, hR, hk0 _ (by omega : p = p)]
  have e26 : (SE.bin 6 .i64 (.app 18 (.g (.s 0) (.i (.v 1) .nil))) (.c (-1))).eval Gv.σ = ((manyK (1 :: K) : Int) + (-1 : Int)) := by show (SE.app 18 (.g (.s 0) (.i (.v 1) .nil))).eval Gv.σ + (SE.c (-1)).eval Gv.σ = _; rw [e23, evC (-1)]
  refine tm_of_run (n := 2000) (A := A_r11) (T := [(272, 260)]) (E := E_r11) (hooksTM_ok _ (two_mem h0 h1)) (lpT_ok [kLt] (one_mem k_ok)) ?_ ?_ rfl rfl (by kernel_rfl)
  · unfold A_r11; simp only [sall_cons]
    exact ⟨hA _ (List.mem_singleton.2 rfl),
      holdsN (by rw [e1, evC (0)] <;> omega),
      holdsT (by rw [evC (0), e1] <;> omega),
      holdsT (by rw [hv1, hvL] <;> omega),
      holdsF (by rw [hv1, evC (0)] <;> omega),
      holdsN (by rw [e2, evC (59)] <;> omega),
      holdsN (by rw [e2, evC (9)] <;> omega),
      holdsN (by rw [e2, evC (10)] <;> omega),
      holdsN (by rw [e2, evC (12)] <;> omega),
      holdsN (by rw [e2, evC (13)] <;> omega),
      holdsN (by rw [e2, evC (32)] <;> omega),
      holdsT (by rw [e3, hvL] <;> omega),
      holdsF (by rw [e3, evC (0)] <;> omega),
      holdsF (by rw [e4, evC (0)] <;> omega),
      holdsN (by rw [e4, evC (40)] <;> omega),
      holdsE (by rw [e4, evC (91)] <;> omega),
      holdsT (by rw [hv2, evC (200)] <;> omega),
      holdsT (by rw [e5, hvL] <;> omega),
      holdsF (by rw [e5, evC (0)] <;> omega),
      holdsN (by rw [e6, evC (59)] <;> omega),
      holdsN (by rw [e6, evC (9)] <;> omega),
      holdsN (by rw [e6, evC (10)] <;> omega),
      holdsN (by rw [e6, evC (12)] <;> omega),
      holdsN (by rw [e6, evC (13)] <;> omega),
      holdsN (by rw [e6, evC (32)] <;> omega),
      holdsT (by rw [e7, hvL] <;> omega),
      holdsF (by rw [e7, evC (0)] <;> omega),
      holdsN (by rw [e8, evC (93)] <;> omega),
      d_inv.2 (by rw [e5, e9]; show deepR (Gv.σ 0) _ _; rw [hR]; exact hnext _ _ (by omega) (by omega)),
      holdsN (by rw [e10, evC (0)] <;> omega),
      holdsT (by rw [evC (0), e10] <;> omega),
      holdsT (by rw [e10, e1] <;> omega),
      holdsF (by rw [e10, evC (0)] <;> omega),
      holdsT (by rw [e11, hvL] <;> omega),
      holdsF (by rw [e11, evC (0)] <;> omega),
      holdsN (by rw [e12, evC (59)] <;> omega),
      holdsN (by rw [e12, evC (9)] <;> omega),
      holdsN (by rw [e12, evC (10)] <;> omega),
      holdsN (by rw [e12, evC (12)] <;> omega),
      holdsN (by rw [e12, evC (13)] <;> omega),
      holdsN (by rw [e12, evC (32)] <;> omega),
      holdsT (by rw [e13, hvL] <;> omega),
      holdsF (by rw [e13, evC (0)] <;> omega),
      holdsE (by rw [e14, evC (93)] <;> omega),
      holdsN (by rw [e15, evC (1200)] <;> omega),
      holdsF (by rw [evC (1048576), e16] <;> omega),
      holdsF (by rw [evC (60000), e18] <;> omega), SAll.nil⟩
  · exact ⟨by rw [e19, e20] <;> omega, by rw [e21, hv2] <;> omega, by rw [e22, e23] <;> omega, by rw [e16, e24] <;> omega, by rw [e18, e23] <;> omega, by rw [evC (4), e25] <;> omega, by rw [e15, e26] <;> omega, trivial⟩
end Go.Ev
