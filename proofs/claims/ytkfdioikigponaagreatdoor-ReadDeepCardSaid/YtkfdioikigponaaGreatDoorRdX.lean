import Derived.Test.YtkfdioikigponaaGreatDoorRdW
set_option maxRecDepth 100000
set_option linter.all false
namespace Go.Ev
/- copyistlaw05.ReadDeep: its loop. -/
noncomputable section
def wI : SA := .mk false (.app 25 (.g (.s 2) (.i (.v 6) (.g (.s 3) (.g (.s 4) (.i (.v 5) .nil)))))) (.c 1) true
def wM : SE := (.bin 6 .i64 (.v 1) (.bin 7 .i64 (.c (-1)) (.v 6)))
def wUs : List AV := [.gv (.sr (K.of 256) (.v 0) (.v 1) []), .top, .bool false, .gv (.str (.s 3) []), .gv (.str (.s 4) []), .sym .i64 (.v 5) [], .sym .i64 (.v 6) [], .top, .top, .top, .top, .top, .top, .top, .top, .gv (.sr (K.of 256) (.v 0) (.v 1) []), .sym .i64 (.v 1) [], .top, .top, .top, .top, .top, .top, .top, .top, .top, .top, .top, .top, .top, .top, .top, .top, .top, .top, .top, .top, .top, .top, .top, .top, .top, .top, .top, .top, .top, .top, .top, .top, .top, .top, .top, .top, .top, .top, .top, .top, .top, .top, .top, .top, .top, .top, .top, .top, .top, .top, .top, .top, .top, .top, .top, .top, .top, .top, .top, .top, .top, .top, .top, .top, .top, .top, .top]
def wUo : List AV := [.gv (.sr (K.of 256) (.v 0) (.v 1) []), .top, .bool false, .gv (.str (.app 20 (.g (.s 2) (.i (.v 1) .nil))) []), .gv (.str (.app 21 (.g (.s 2) (.i (.v 1) .nil))) []), .sym .i64 (.app 22 (.g (.s 2) (.i (.v 1) .nil))) [], .top, .top, .top, .top, .top, .top, .top, .top, .top, .gv (.sr (K.of 256) (.v 0) (.v 1) []), .sym .i64 (.v 1) [], .top, .top, .top, .top, .top, .top, .top, .top, .top, .top, .top, .top, .top, .top, .top, .top, .top, .top, .top, .top, .top, .top, .top, .top, .top, .top, .top, .top, .top, .top, .top, .top, .top, .top, .top, .top, .top, .top, .top, .top, .top, .top, .top, .top, .top, .top, .top, .top, .top, .top, .top, .top, .top, .top, .top, .top, .top, .top, .top, .top, .top, .top, .top, .top, .top, .top, .top]
def wLi : List HO := [.mk 256 (.gob (.rh (.v 0) (.v 1) (.s 2)))]
def wLt : LT := .mk 3 15 wUs 257 wLi [.mk false (.app 25 (.g (.s 2) (.i (.v 6) (.g (.s 3) (.g (.s 4) (.i (.v 5) .nil)))))) (.c 1) true, .mk false (.v 1) (.len (.s 2)) true] (some ((.bin 6 .i64 (.v 1) (.bin 7 .i64 (.c (-1)) (.v 6))), (.bin 6 .i64 (.v 1) (.bin 7 .i64 (.c (-1)) (.v 6))))) (.x 0 wUo) 257 wLi
end
open Classical in
theorem w_inv {σ : Nat → List Int} {g g3 g4 : GE} {e1 e5 : SE} : (SA.mk false (.app 25 (.g g (.i e1 (.g g3 (.g g4 (.i e5 .nil)))))) (.c 1) true).holds σ ↔ lawI (g.eval σ) (e1.eval σ) (g3.eval σ) (g4.eval σ) (e5.eval σ) := by
  show decide (phiI 25 [g.eval σ, [e1.eval σ], g3.eval σ, g4.eval σ, [e5.eval σ]] = 1) = true ↔ _
  rw [decide_eq_true_iff]
  exact ite1
theorem wI1 {σ : Nat → List Int} : wI.holds σ ↔ lawI (σ 2) ((σ 6).headD 0) (σ 3) (σ 4) ((σ 5).headD 0) := w_inv (g := .s 2) (e1 := .v 6) (g3 := .s 3) (g4 := .s 4) (e5 := .v 5)
noncomputable def A_L0 : List SA := [.mk false (.app 25 (.g (.s 2) (.i (.v 6) (.g (.s 3) (.g (.s 4) (.i (.v 5) .nil)))))) (.c 1) true, .mk false (.v 1) (.len (.s 2)) true, .mk true (.v 6) (.v 1) true, .mk true (.v 6) (.c 0) false, .mk false (.bin 5 .i64 (.rd (.s 2) (.v 6)) (.c 5)) (.c 0) true, .mk false (.v 6) (.c 200) false, .mk true (.c 9223372036854775807) (.bin 6 .i64 (.len (.s 3)) (.c 1)) false, .mk true (.c 9223372036854775807) (.bin 6 .i64 (.c 1) (.len (.s 4))) false, .mk false (.app 25 (.g (.s 2) (.i (.bin 0 .i64 (.v 6) (.c 1)) (.g (.cat (.s 3) (.lit 1 40)) (.g (.cat (.lit 1 41) (.s 4)) (.i (.v 5) .nil)))))) (.c 1) true, .mk true (.bin 6 .i64 (.v 1) (.bin 7 .i64 (.c (-1)) (.bin 0 .i64 (.v 6) (.c 1)))) (.bin 6 .i64 (.v 1) (.bin 7 .i64 (.c (-1)) (.v 6))) true, .mk true (.bin 6 .i64 (.v 1) (.bin 7 .i64 (.c (-1)) (.bin 0 .i64 (.v 6) (.c 1)))) (.c 0) false]
theorem w_L0 [Gv] (h0 : LtFact wLt) (hinv : lawI (Gv.σ 2) ((Gv.σ 6).headD 0) (Gv.σ 3) (Gv.σ 4) ((Gv.σ 5).headD 0)) (hn : (Gv.σ 1).headD 0 = ((Gv.σ 2).length : Int)) {r : Int} (hr : (Gv.σ 2)[((Gv.σ 6).headD 0).toNat]? = some r) (hk : r % 5 = 0) (hm : ¬ (Gv.σ 6).headD 0 = 200) : LFactT 3 15 wUs 257 wLi (.x 0 wUo) 257 wLi := by
  have hlt := (List.getElem?_eq_some_iff.1 hr).1
  have hr : ∀ y : Int, y = (Gv.σ 6).headD 0 → (Gv.σ 2).getD y.toNat 0 = r := by rintro y rfl; exact getD_of hr
  have hnext : ∀ y z : Int, y = (Gv.σ 6).headD 0 + 1 → z = (Gv.σ 5).headD 0 → lawI (Gv.σ 2) y (Gv.σ 3 ++ opn 0) (clo 0 ++ Gv.σ 4) z := by
    rintro y z rfl rfl
    have := law_step hinv (k := 0) (r := r) (by assumption) hk
    rw [if_neg hm] at this; exact this
  have hle := law_len hinv
  have hi0 := hinv.1
  have hl2 := hinv.2.2.1
  obtain ⟨i, hi⟩ : ∃ x, (Gv.σ 6).headD 0 = x := ⟨_, rfl⟩
  obtain ⟨a, ha⟩ : ∃ x, (Gv.σ 5).headD 0 = x := ⟨_, rfl⟩
  obtain ⟨l, hl⟩ : ∃ x, Gv.σ 2 = x := ⟨_, rfl⟩
  obtain ⟨s, hs⟩ : ∃ x, Gv.σ 3 = x := ⟨_, rfl⟩
  obtain ⟨b, hb⟩ : ∃ x, Gv.σ 4 = x := ⟨_, rfl⟩
  have hv1 : (SE.v 1).eval Gv.σ = (l.length : Int) := by show (Gv.σ 1).headD 0 = _; rw [hn, hl]
  have hv6 : (SE.v 6).eval Gv.σ = i := hi
  have hv5 : (SE.v 5).eval Gv.σ = a := ha
  have hvL : (SE.len (.s 2)).eval Gv.σ = (l.length : Int) := by show ((Gv.σ 2).length : Int) = _; rw [hl]
  have hvS : (SE.len (.s 3)).eval Gv.σ = (s.length : Int) := by show ((Gv.σ 3).length : Int) = _; rw [hs]
  have hvB : (SE.len (.s 4)).eval Gv.σ = (b.length : Int) := by show ((Gv.σ 4).length : Int) = _; rw [hb]
  rw [hi, hl, hs, hb, ha] at hnext
  rw [hi, hl] at hr hlt
  rw [hs, hb] at hle
  rw [hi] at hm hi0
  rw [hl] at hl2
  have e1 : (SE.rd (.s 2) (.v 6)).eval Gv.σ = r := by show (Gv.σ 2).getD ((SE.v 6).eval Gv.σ).toNat 0 = _; rw [hv6, hl]; exact hr _ (by omega)
  have e2 : (SE.bin 5 .i64 (.rd (.s 2) (.v 6)) (.c 5)).eval Gv.σ = (r % (5 : Int)) := by show (SE.rd (.s 2) (.v 6)).eval Gv.σ % (SE.c 5).eval Gv.σ = _; rw [e1, evC (5)]
  have e3 : (SE.bin 6 .i64 (.len (.s 3)) (.c 1)).eval Gv.σ = ((s.length : Int) + (1 : Int)) := by show (SE.len (.s 3)).eval Gv.σ + (SE.c 1).eval Gv.σ = _; rw [hvS, evC (1)]
  have e4 : (SE.bin 6 .i64 (.c 1) (.len (.s 4))).eval Gv.σ = ((1 : Int) + (b.length : Int)) := by show (SE.c 1).eval Gv.σ + (SE.len (.s 4)).eval Gv.σ = _; rw [evC (1), hvB]
  have e5 : (SE.bin 0 .i64 (.v 6) (.c 1)).eval Gv.σ = (i + (1 : Int)) := by show IntKind.i64.wrap ((SE.v 6).eval Gv.σ + (SE.c 1).eval Gv.σ) = _; rw [hv6, evC (1), wrap64 (by omega)]
  have e7 : (SE.bin 7 .i64 (.c (-1)) (.bin 0 .i64 (.v 6) (.c 1))).eval Gv.σ = ((-1 : Int) * (i + (1 : Int))) := by show (SE.c (-1)).eval Gv.σ * (SE.bin 0 .i64 (.v 6) (.c 1)).eval Gv.σ = _; rw [evC (-1), e5]
  have e6 : (SE.bin 6 .i64 (.v 1) (.bin 7 .i64 (.c (-1)) (.bin 0 .i64 (.v 6) (.c 1)))).eval Gv.σ = ((l.length : Int) + ((-1 : Int) * (i + (1 : Int)))) := by show (SE.v 1).eval Gv.σ + (SE.bin 7 .i64 (.c (-1)) (.bin 0 .i64 (.v 6) (.c 1))).eval Gv.σ = _; rw [hv1, e7]
  have e9 : (SE.bin 7 .i64 (.c (-1)) (.v 6)).eval Gv.σ = ((-1 : Int) * i) := by show (SE.c (-1)).eval Gv.σ * (SE.v 6).eval Gv.σ = _; rw [evC (-1), hv6]
  have e8 : (SE.bin 6 .i64 (.v 1) (.bin 7 .i64 (.c (-1)) (.v 6))).eval Gv.σ = ((l.length : Int) + ((-1 : Int) * i)) := by show (SE.v 1).eval Gv.σ + (SE.bin 7 .i64 (.c (-1)) (.v 6)).eval Gv.σ = _; rw [hv1, e9]
  refine lt_of_run (n := 2000) (A := A_L0) (T := []) (E := .nil) (hooksTM_ok _ (five_mem pk0_ok pk1_ok pk2_ok pk3_ok pk4_ok)) (lpT_ok [wLt] (one_mem h0)) ?_ trivial rfl rfl (by kernel_rfl)
  unfold A_L0; simp only [sall_cons]
  exact ⟨w_inv.2 hinv,
      holdsE (by rw [hv1, hvL] <;> omega),
      holdsT (by rw [hv6, hv1] <;> omega),
      holdsF (by rw [hv6, evC (0)] <;> omega),
      holdsE (by rw [e2, evC (0)] <;> omega),
      holdsN (by rw [hv6, evC (200)] <;> omega),
      holdsF (by rw [evC (9223372036854775807), e3] <;> omega),
      holdsF (by rw [evC (9223372036854775807), e4] <;> omega),
      w_inv.2 (by show lawI (Gv.σ 2) ((SE.bin 0 .i64 (.v 6) (.c 1)).eval Gv.σ) (Gv.σ 3 ++ (GE.lit 1 40).eval Gv.σ) ((GE.lit 1 41).eval Gv.σ ++ Gv.σ 4) ((SE.v 5).eval Gv.σ); rw [e5, hv5, lit40 Gv.σ, lit41 Gv.σ, hl, hs, hb]; exact hnext _ _ (by omega) (by omega)),
      holdsT (by rw [e6, e8] <;> omega),
      holdsF (by rw [e6, evC (0)] <;> omega), SAll.nil⟩
noncomputable def A_M0 : List SA := [.mk false (.app 25 (.g (.s 2) (.i (.v 6) (.g (.s 3) (.g (.s 4) (.i (.v 5) .nil)))))) (.c 1) true, .mk false (.v 1) (.len (.s 2)) true, .mk true (.v 6) (.v 1) true, .mk true (.v 6) (.c 0) false, .mk false (.bin 5 .i64 (.rd (.s 2) (.v 6)) (.c 5)) (.c 0) true, .mk false (.v 6) (.c 200) true, .mk true (.c 200) (.v 1) true, .mk false (.bin 5 .i64 (.rd (.s 2) (.c 200)) (.c 5)) (.c 0) true, .mk true (.c 9223372036854775807) (.bin 6 .i64 (.len (.s 3)) (.c 1)) false, .mk true (.c 9223372036854775807) (.bin 6 .i64 (.c 1) (.len (.s 4))) false, .mk false (.app 25 (.g (.s 2) (.i (.c 201) (.g (.cat (.s 3) (.lit 1 40)) (.g (.cat (.lit 1 41) (.s 4)) (.i (.len (.s 3)) .nil)))))) (.c 1) true, .mk true (.bin 6 .i64 (.v 1) (.c (-201))) (.bin 6 .i64 (.v 1) (.bin 7 .i64 (.c (-1)) (.v 6))) true, .mk true (.bin 6 .i64 (.v 1) (.c (-201))) (.c 0) false]
theorem w_M0 [Gv] (h0 : LtFact wLt) (hinv : lawI (Gv.σ 2) ((Gv.σ 6).headD 0) (Gv.σ 3) (Gv.σ 4) ((Gv.σ 5).headD 0)) (hn : (Gv.σ 1).headD 0 = ((Gv.σ 2).length : Int)) {r : Int} (hr : (Gv.σ 2)[((Gv.σ 6).headD 0).toNat]? = some r) (hk : r % 5 = 0) (hm : (Gv.σ 6).headD 0 = 200) : LFactT 3 15 wUs 257 wLi (.x 0 wUo) 257 wLi := by
  have hlt := (List.getElem?_eq_some_iff.1 hr).1
  have hr : ∀ y : Int, y = (Gv.σ 6).headD 0 → (Gv.σ 2).getD y.toNat 0 = r := by rintro y rfl; exact getD_of hr
  have hnext : ∀ y z : Int, y = (Gv.σ 6).headD 0 + 1 → z = ((Gv.σ 3).length : Int) → lawI (Gv.σ 2) y (Gv.σ 3 ++ opn 0) (clo 0 ++ Gv.σ 4) z := by
    rintro y z rfl rfl
    have := law_step hinv (k := 0) (r := r) (by assumption) hk
    rw [if_pos hm] at this; exact this
  have hle := law_len hinv
  have hi0 := hinv.1
  have hl2 := hinv.2.2.1
  obtain ⟨i, hi⟩ : ∃ x, (Gv.σ 6).headD 0 = x := ⟨_, rfl⟩
  obtain ⟨a, ha⟩ : ∃ x, (Gv.σ 5).headD 0 = x := ⟨_, rfl⟩
  obtain ⟨l, hl⟩ : ∃ x, Gv.σ 2 = x := ⟨_, rfl⟩
  obtain ⟨s, hs⟩ : ∃ x, Gv.σ 3 = x := ⟨_, rfl⟩
  obtain ⟨b, hb⟩ : ∃ x, Gv.σ 4 = x := ⟨_, rfl⟩
  have hv1 : (SE.v 1).eval Gv.σ = (l.length : Int) := by show (Gv.σ 1).headD 0 = _; rw [hn, hl]
  have hv6 : (SE.v 6).eval Gv.σ = i := hi
  have hv5 : (SE.v 5).eval Gv.σ = a := ha
  have hvL : (SE.len (.s 2)).eval Gv.σ = (l.length : Int) := by show ((Gv.σ 2).length : Int) = _; rw [hl]
  have hvS : (SE.len (.s 3)).eval Gv.σ = (s.length : Int) := by show ((Gv.σ 3).length : Int) = _; rw [hs]
  have hvB : (SE.len (.s 4)).eval Gv.σ = (b.length : Int) := by show ((Gv.σ 4).length : Int) = _; rw [hb]
  rw [hi, hl, hs, hb] at hnext
  rw [hi, hl] at hr hlt
  rw [hs, hb] at hle
  rw [hi] at hm hi0
  rw [hl] at hl2
  have e1 : (SE.rd (.s 2) (.v 6)).eval Gv.σ = r := by show (Gv.σ 2).getD ((SE.v 6).eval Gv.σ).toNat 0 = _; rw [hv6, hl]; exact hr _ (by omega)
  have e2 : (SE.bin 5 .i64 (.rd (.s 2) (.v 6)) (.c 5)).eval Gv.σ = (r % (5 : Int)) := by show (SE.rd (.s 2) (.v 6)).eval Gv.σ % (SE.c 5).eval Gv.σ = _; rw [e1, evC (5)]
  have e3 : (SE.rd (.s 2) (.c 200)).eval Gv.σ = r := by show (Gv.σ 2).getD ((SE.c 200).eval Gv.σ).toNat 0 = _; rw [evC (200), hl]; exact hr _ (by omega)
  have e4 : (SE.bin 5 .i64 (.rd (.s 2) (.c 200)) (.c 5)).eval Gv.σ = (r % (5 : Int)) := by show (SE.rd (.s 2) (.c 200)).eval Gv.σ % (SE.c 5).eval Gv.σ = _; rw [e3, evC (5)]
  have e5 : (SE.bin 6 .i64 (.len (.s 3)) (.c 1)).eval Gv.σ = ((s.length : Int) + (1 : Int)) := by show (SE.len (.s 3)).eval Gv.σ + (SE.c 1).eval Gv.σ = _; rw [hvS, evC (1)]
  have e6 : (SE.bin 6 .i64 (.c 1) (.len (.s 4))).eval Gv.σ = ((1 : Int) + (b.length : Int)) := by show (SE.c 1).eval Gv.σ + (SE.len (.s 4)).eval Gv.σ = _; rw [evC (1), hvB]
  have e7 : (SE.bin 6 .i64 (.v 1) (.c (-201))).eval Gv.σ = ((l.length : Int) + (-201 : Int)) := by show (SE.v 1).eval Gv.σ + (SE.c (-201)).eval Gv.σ = _; rw [hv1, evC (-201)]
  have e9 : (SE.bin 7 .i64 (.c (-1)) (.v 6)).eval Gv.σ = ((-1 : Int) * i) := by show (SE.c (-1)).eval Gv.σ * (SE.v 6).eval Gv.σ = _; rw [evC (-1), hv6]
  have e8 : (SE.bin 6 .i64 (.v 1) (.bin 7 .i64 (.c (-1)) (.v 6))).eval Gv.σ = ((l.length : Int) + ((-1 : Int) * i)) := by show (SE.v 1).eval Gv.σ + (SE.bin 7 .i64 (.c (-1)) (.v 6)).eval Gv.σ = _; rw [hv1, e9]
  refine lt_of_run (n := 2000) (A := A_M0) (T := []) (E := .nil) (hooksTM_ok _ (five_mem pk0_ok pk1_ok pk2_ok pk3_ok pk4_ok)) (lpT_ok [wLt] (one_mem h0)) ?_ trivial rfl rfl (by kernel_rfl)
  unfold A_M0; simp only [sall_cons]
  exact ⟨w_inv.2 hinv,
      holdsE (by rw [hv1, hvL] <;> omega),
      holdsT (by rw [hv6, hv1] <;> omega),
      holdsF (by rw [hv6, evC (0)] <;> omega),
      holdsE (by rw [e2, evC (0)] <;> omega),
      holdsE (by rw [hv6, evC (200)] <;> omega),
      holdsT (by rw [evC (200), hv1] <;> omega),
      holdsE (by rw [e4, evC (0)] <;> omega),
      holdsF (by rw [evC (9223372036854775807), e5] <;> omega),
      holdsF (by rw [evC (9223372036854775807), e6] <;> omega),
      w_inv.2 (by show lawI (Gv.σ 2) ((SE.c 201).eval Gv.σ) (Gv.σ 3 ++ (GE.lit 1 40).eval Gv.σ) ((GE.lit 1 41).eval Gv.σ ++ Gv.σ 4) ((SE.len (.s 3)).eval Gv.σ); rw [evC (201), hvS, lit40 Gv.σ, lit41 Gv.σ, hl, hs, hb]; exact hnext _ _ (by omega) (by omega)),
      holdsT (by rw [e7, e8] <;> omega),
      holdsF (by rw [e7, evC (0)] <;> omega), SAll.nil⟩
noncomputable def A_L1 : List SA := [.mk false (.app 25 (.g (.s 2) (.i (.v 6) (.g (.s 3) (.g (.s 4) (.i (.v 5) .nil)))))) (.c 1) true, .mk false (.v 1) (.len (.s 2)) true, .mk true (.v 6) (.v 1) true, .mk true (.v 6) (.c 0) false, .mk false (.bin 5 .i64 (.rd (.s 2) (.v 6)) (.c 5)) (.c 0) false, .mk false (.bin 5 .i64 (.rd (.s 2) (.v 6)) (.c 5)) (.c 1) true, .mk false (.v 6) (.c 200) false, .mk true (.c 9223372036854775807) (.bin 6 .i64 (.len (.s 3)) (.c 1)) false, .mk true (.c 9223372036854775807) (.bin 6 .i64 (.c 1) (.len (.s 4))) false, .mk false (.app 25 (.g (.s 2) (.i (.bin 0 .i64 (.v 6) (.c 1)) (.g (.cat (.s 3) (.lit 1 91)) (.g (.cat (.lit 1 93) (.s 4)) (.i (.v 5) .nil)))))) (.c 1) true, .mk true (.bin 6 .i64 (.v 1) (.bin 7 .i64 (.c (-1)) (.bin 0 .i64 (.v 6) (.c 1)))) (.bin 6 .i64 (.v 1) (.bin 7 .i64 (.c (-1)) (.v 6))) true, .mk true (.bin 6 .i64 (.v 1) (.bin 7 .i64 (.c (-1)) (.bin 0 .i64 (.v 6) (.c 1)))) (.c 0) false]
theorem w_L1 [Gv] (h0 : LtFact wLt) (hinv : lawI (Gv.σ 2) ((Gv.σ 6).headD 0) (Gv.σ 3) (Gv.σ 4) ((Gv.σ 5).headD 0)) (hn : (Gv.σ 1).headD 0 = ((Gv.σ 2).length : Int)) {r : Int} (hr : (Gv.σ 2)[((Gv.σ 6).headD 0).toNat]? = some r) (hk : r % 5 = 1) (hm : ¬ (Gv.σ 6).headD 0 = 200) : LFactT 3 15 wUs 257 wLi (.x 0 wUo) 257 wLi := by
  have hlt := (List.getElem?_eq_some_iff.1 hr).1
  have hr : ∀ y : Int, y = (Gv.σ 6).headD 0 → (Gv.σ 2).getD y.toNat 0 = r := by rintro y rfl; exact getD_of hr
  have hnext : ∀ y z : Int, y = (Gv.σ 6).headD 0 + 1 → z = (Gv.σ 5).headD 0 → lawI (Gv.σ 2) y (Gv.σ 3 ++ opn 1) (clo 1 ++ Gv.σ 4) z := by
    rintro y z rfl rfl
    have := law_step hinv (k := 1) (r := r) (by assumption) hk
    rw [if_neg hm] at this; exact this
  have hle := law_len hinv
  have hi0 := hinv.1
  have hl2 := hinv.2.2.1
  obtain ⟨i, hi⟩ : ∃ x, (Gv.σ 6).headD 0 = x := ⟨_, rfl⟩
  obtain ⟨a, ha⟩ : ∃ x, (Gv.σ 5).headD 0 = x := ⟨_, rfl⟩
  obtain ⟨l, hl⟩ : ∃ x, Gv.σ 2 = x := ⟨_, rfl⟩
  obtain ⟨s, hs⟩ : ∃ x, Gv.σ 3 = x := ⟨_, rfl⟩
  obtain ⟨b, hb⟩ : ∃ x, Gv.σ 4 = x := ⟨_, rfl⟩
  have hv1 : (SE.v 1).eval Gv.σ = (l.length : Int) := by show (Gv.σ 1).headD 0 = _; rw [hn, hl]
  have hv6 : (SE.v 6).eval Gv.σ = i := hi
  have hv5 : (SE.v 5).eval Gv.σ = a := ha
  have hvL : (SE.len (.s 2)).eval Gv.σ = (l.length : Int) := by show ((Gv.σ 2).length : Int) = _; rw [hl]
  have hvS : (SE.len (.s 3)).eval Gv.σ = (s.length : Int) := by show ((Gv.σ 3).length : Int) = _; rw [hs]
  have hvB : (SE.len (.s 4)).eval Gv.σ = (b.length : Int) := by show ((Gv.σ 4).length : Int) = _; rw [hb]
  rw [hi, hl, hs, hb, ha] at hnext
  rw [hi, hl] at hr hlt
  rw [hs, hb] at hle
  rw [hi] at hm hi0
  rw [hl] at hl2
  have e1 : (SE.rd (.s 2) (.v 6)).eval Gv.σ = r := by show (Gv.σ 2).getD ((SE.v 6).eval Gv.σ).toNat 0 = _; rw [hv6, hl]; exact hr _ (by omega)
  have e2 : (SE.bin 5 .i64 (.rd (.s 2) (.v 6)) (.c 5)).eval Gv.σ = (r % (5 : Int)) := by show (SE.rd (.s 2) (.v 6)).eval Gv.σ % (SE.c 5).eval Gv.σ = _; rw [e1, evC (5)]
  have e3 : (SE.bin 6 .i64 (.len (.s 3)) (.c 1)).eval Gv.σ = ((s.length : Int) + (1 : Int)) := by show (SE.len (.s 3)).eval Gv.σ + (SE.c 1).eval Gv.σ = _; rw [hvS, evC (1)]
  have e4 : (SE.bin 6 .i64 (.c 1) (.len (.s 4))).eval Gv.σ = ((1 : Int) + (b.length : Int)) := by show (SE.c 1).eval Gv.σ + (SE.len (.s 4)).eval Gv.σ = _; rw [evC (1), hvB]
  have e5 : (SE.bin 0 .i64 (.v 6) (.c 1)).eval Gv.σ = (i + (1 : Int)) := by show IntKind.i64.wrap ((SE.v 6).eval Gv.σ + (SE.c 1).eval Gv.σ) = _; rw [hv6, evC (1), wrap64 (by omega)]
  have e7 : (SE.bin 7 .i64 (.c (-1)) (.bin 0 .i64 (.v 6) (.c 1))).eval Gv.σ = ((-1 : Int) * (i + (1 : Int))) := by show (SE.c (-1)).eval Gv.σ * (SE.bin 0 .i64 (.v 6) (.c 1)).eval Gv.σ = _; rw [evC (-1), e5]
  have e6 : (SE.bin 6 .i64 (.v 1) (.bin 7 .i64 (.c (-1)) (.bin 0 .i64 (.v 6) (.c 1)))).eval Gv.σ = ((l.length : Int) + ((-1 : Int) * (i + (1 : Int)))) := by show (SE.v 1).eval Gv.σ + (SE.bin 7 .i64 (.c (-1)) (.bin 0 .i64 (.v 6) (.c 1))).eval Gv.σ = _; rw [hv1, e7]
  have e9 : (SE.bin 7 .i64 (.c (-1)) (.v 6)).eval Gv.σ = ((-1 : Int) * i) := by show (SE.c (-1)).eval Gv.σ * (SE.v 6).eval Gv.σ = _; rw [evC (-1), hv6]
  have e8 : (SE.bin 6 .i64 (.v 1) (.bin 7 .i64 (.c (-1)) (.v 6))).eval Gv.σ = ((l.length : Int) + ((-1 : Int) * i)) := by show (SE.v 1).eval Gv.σ + (SE.bin 7 .i64 (.c (-1)) (.v 6)).eval Gv.σ = _; rw [hv1, e9]
  refine lt_of_run (n := 2000) (A := A_L1) (T := []) (E := .nil) (hooksTM_ok _ (five_mem pk0_ok pk1_ok pk2_ok pk3_ok pk4_ok)) (lpT_ok [wLt] (one_mem h0)) ?_ trivial rfl rfl (by kernel_rfl)
  unfold A_L1; simp only [sall_cons]
  exact ⟨w_inv.2 hinv,
      holdsE (by rw [hv1, hvL] <;> omega),
      holdsT (by rw [hv6, hv1] <;> omega),
      holdsF (by rw [hv6, evC (0)] <;> omega),
      holdsN (by rw [e2, evC (0)] <;> omega),
      holdsE (by rw [e2, evC (1)] <;> omega),
      holdsN (by rw [hv6, evC (200)] <;> omega),
      holdsF (by rw [evC (9223372036854775807), e3] <;> omega),
      holdsF (by rw [evC (9223372036854775807), e4] <;> omega),
      w_inv.2 (by show lawI (Gv.σ 2) ((SE.bin 0 .i64 (.v 6) (.c 1)).eval Gv.σ) (Gv.σ 3 ++ (GE.lit 1 91).eval Gv.σ) ((GE.lit 1 93).eval Gv.σ ++ Gv.σ 4) ((SE.v 5).eval Gv.σ); rw [e5, hv5, lit91 Gv.σ, lit93 Gv.σ, hl, hs, hb]; exact hnext _ _ (by omega) (by omega)),
      holdsT (by rw [e6, e8] <;> omega),
      holdsF (by rw [e6, evC (0)] <;> omega), SAll.nil⟩
noncomputable def A_M1 : List SA := [.mk false (.app 25 (.g (.s 2) (.i (.v 6) (.g (.s 3) (.g (.s 4) (.i (.v 5) .nil)))))) (.c 1) true, .mk false (.v 1) (.len (.s 2)) true, .mk true (.v 6) (.v 1) true, .mk true (.v 6) (.c 0) false, .mk false (.bin 5 .i64 (.rd (.s 2) (.v 6)) (.c 5)) (.c 0) false, .mk false (.bin 5 .i64 (.rd (.s 2) (.v 6)) (.c 5)) (.c 1) true, .mk false (.v 6) (.c 200) true, .mk true (.c 200) (.v 1) true, .mk false (.bin 5 .i64 (.rd (.s 2) (.c 200)) (.c 5)) (.c 0) false, .mk false (.bin 5 .i64 (.rd (.s 2) (.c 200)) (.c 5)) (.c 1) true, .mk true (.c 9223372036854775807) (.bin 6 .i64 (.len (.s 3)) (.c 1)) false, .mk true (.c 9223372036854775807) (.bin 6 .i64 (.c 1) (.len (.s 4))) false, .mk false (.app 25 (.g (.s 2) (.i (.c 201) (.g (.cat (.s 3) (.lit 1 91)) (.g (.cat (.lit 1 93) (.s 4)) (.i (.len (.s 3)) .nil)))))) (.c 1) true, .mk true (.bin 6 .i64 (.v 1) (.c (-201))) (.bin 6 .i64 (.v 1) (.bin 7 .i64 (.c (-1)) (.v 6))) true, .mk true (.bin 6 .i64 (.v 1) (.c (-201))) (.c 0) false]
theorem w_M1 [Gv] (h0 : LtFact wLt) (hinv : lawI (Gv.σ 2) ((Gv.σ 6).headD 0) (Gv.σ 3) (Gv.σ 4) ((Gv.σ 5).headD 0)) (hn : (Gv.σ 1).headD 0 = ((Gv.σ 2).length : Int)) {r : Int} (hr : (Gv.σ 2)[((Gv.σ 6).headD 0).toNat]? = some r) (hk : r % 5 = 1) (hm : (Gv.σ 6).headD 0 = 200) : LFactT 3 15 wUs 257 wLi (.x 0 wUo) 257 wLi := by
  have hlt := (List.getElem?_eq_some_iff.1 hr).1
  have hr : ∀ y : Int, y = (Gv.σ 6).headD 0 → (Gv.σ 2).getD y.toNat 0 = r := by rintro y rfl; exact getD_of hr
  have hnext : ∀ y z : Int, y = (Gv.σ 6).headD 0 + 1 → z = ((Gv.σ 3).length : Int) → lawI (Gv.σ 2) y (Gv.σ 3 ++ opn 1) (clo 1 ++ Gv.σ 4) z := by
    rintro y z rfl rfl
    have := law_step hinv (k := 1) (r := r) (by assumption) hk
    rw [if_pos hm] at this; exact this
  have hle := law_len hinv
  have hi0 := hinv.1
  have hl2 := hinv.2.2.1
  obtain ⟨i, hi⟩ : ∃ x, (Gv.σ 6).headD 0 = x := ⟨_, rfl⟩
  obtain ⟨a, ha⟩ : ∃ x, (Gv.σ 5).headD 0 = x := ⟨_, rfl⟩
  obtain ⟨l, hl⟩ : ∃ x, Gv.σ 2 = x := ⟨_, rfl⟩
  obtain ⟨s, hs⟩ : ∃ x, Gv.σ 3 = x := ⟨_, rfl⟩
  obtain ⟨b, hb⟩ : ∃ x, Gv.σ 4 = x := ⟨_, rfl⟩
  have hv1 : (SE.v 1).eval Gv.σ = (l.length : Int) := by show (Gv.σ 1).headD 0 = _; rw [hn, hl]
  have hv6 : (SE.v 6).eval Gv.σ = i := hi
  have hv5 : (SE.v 5).eval Gv.σ = a := ha
  have hvL : (SE.len (.s 2)).eval Gv.σ = (l.length : Int) := by show ((Gv.σ 2).length : Int) = _; rw [hl]
  have hvS : (SE.len (.s 3)).eval Gv.σ = (s.length : Int) := by show ((Gv.σ 3).length : Int) = _; rw [hs]
  have hvB : (SE.len (.s 4)).eval Gv.σ = (b.length : Int) := by show ((Gv.σ 4).length : Int) = _; rw [hb]
  rw [hi, hl, hs, hb] at hnext
  rw [hi, hl] at hr hlt
  rw [hs, hb] at hle
  rw [hi] at hm hi0
  rw [hl] at hl2
  have e1 : (SE.rd (.s 2) (.v 6)).eval Gv.σ = r := by show (Gv.σ 2).getD ((SE.v 6).eval Gv.σ).toNat 0 = _; rw [hv6, hl]; exact hr _ (by omega)
  have e2 : (SE.bin 5 .i64 (.rd (.s 2) (.v 6)) (.c 5)).eval Gv.σ = (r % (5 : Int)) := by show (SE.rd (.s 2) (.v 6)).eval Gv.σ % (SE.c 5).eval Gv.σ = _; rw [e1, evC (5)]
  have e3 : (SE.rd (.s 2) (.c 200)).eval Gv.σ = r := by show (Gv.σ 2).getD ((SE.c 200).eval Gv.σ).toNat 0 = _; rw [evC (200), hl]; exact hr _ (by omega)
  have e4 : (SE.bin 5 .i64 (.rd (.s 2) (.c 200)) (.c 5)).eval Gv.σ = (r % (5 : Int)) := by show (SE.rd (.s 2) (.c 200)).eval Gv.σ % (SE.c 5).eval Gv.σ = _; rw [e3, evC (5)]
  have e5 : (SE.bin 6 .i64 (.len (.s 3)) (.c 1)).eval Gv.σ = ((s.length : Int) + (1 : Int)) := by show (SE.len (.s 3)).eval Gv.σ + (SE.c 1).eval Gv.σ = _; rw [hvS, evC (1)]
  have e6 : (SE.bin 6 .i64 (.c 1) (.len (.s 4))).eval Gv.σ = ((1 : Int) + (b.length : Int)) := by show (SE.c 1).eval Gv.σ + (SE.len (.s 4)).eval Gv.σ = _; rw [evC (1), hvB]
  have e7 : (SE.bin 6 .i64 (.v 1) (.c (-201))).eval Gv.σ = ((l.length : Int) + (-201 : Int)) := by show (SE.v 1).eval Gv.σ + (SE.c (-201)).eval Gv.σ = _; rw [hv1, evC (-201)]
  have e9 : (SE.bin 7 .i64 (.c (-1)) (.v 6)).eval Gv.σ = ((-1 : Int) * i) := by show (SE.c (-1)).eval Gv.σ * (SE.v 6).eval Gv.σ = _; rw [evC (-1), hv6]
  have e8 : (SE.bin 6 .i64 (.v 1) (.bin 7 .i64 (.c (-1)) (.v 6))).eval Gv.σ = ((l.length : Int) + ((-1 : Int) * i)) := by show (SE.v 1).eval Gv.σ + (SE.bin 7 .i64 (.c (-1)) (.v 6)).eval Gv.σ = _; rw [hv1, e9]
  refine lt_of_run (n := 2000) (A := A_M1) (T := []) (E := .nil) (hooksTM_ok _ (five_mem pk0_ok pk1_ok pk2_ok pk3_ok pk4_ok)) (lpT_ok [wLt] (one_mem h0)) ?_ trivial rfl rfl (by kernel_rfl)
  unfold A_M1; simp only [sall_cons]
  exact ⟨w_inv.2 hinv,
      holdsE (by rw [hv1, hvL] <;> omega),
      holdsT (by rw [hv6, hv1] <;> omega),
      holdsF (by rw [hv6, evC (0)] <;> omega),
      holdsN (by rw [e2, evC (0)] <;> omega),
      holdsE (by rw [e2, evC (1)] <;> omega),
      holdsE (by rw [hv6, evC (200)] <;> omega),
      holdsT (by rw [evC (200), hv1] <;> omega),
      holdsN (by rw [e4, evC (0)] <;> omega),
      holdsE (by rw [e4, evC (1)] <;> omega),
      holdsF (by rw [evC (9223372036854775807), e5] <;> omega),
      holdsF (by rw [evC (9223372036854775807), e6] <;> omega),
      w_inv.2 (by show lawI (Gv.σ 2) ((SE.c 201).eval Gv.σ) (Gv.σ 3 ++ (GE.lit 1 91).eval Gv.σ) ((GE.lit 1 93).eval Gv.σ ++ Gv.σ 4) ((SE.len (.s 3)).eval Gv.σ); rw [evC (201), hvS, lit91 Gv.σ, lit93 Gv.σ, hl, hs, hb]; exact hnext _ _ (by omega) (by omega)),
      holdsT (by rw [e7, e8] <;> omega),
      holdsF (by rw [e7, evC (0)] <;> omega), SAll.nil⟩
noncomputable def A_L2 : List SA := [.mk false (.app 25 (.g (.s 2) (.i (.v 6) (.g (.s 3) (.g (.s 4) (.i (.v 5) .nil)))))) (.c 1) true, .mk false (.v 1) (.len (.s 2)) true, .mk true (.v 6) (.v 1) true, .mk true (.v 6) (.c 0) false, .mk false (.bin 5 .i64 (.rd (.s 2) (.v 6)) (.c 5)) (.c 0) false, .mk false (.bin 5 .i64 (.rd (.s 2) (.v 6)) (.c 5)) (.c 1) false, .mk false (.bin 5 .i64 (.rd (.s 2) (.v 6)) (.c 5)) (.c 2) true, .mk false (.v 6) (.c 200) false, .mk true (.c 9223372036854775807) (.bin 6 .i64 (.len (.s 3)) (.c 1)) false, .mk true (.c 9223372036854775807) (.len (.s 4)) false, .mk false (.app 25 (.g (.s 2) (.i (.bin 0 .i64 (.v 6) (.c 1)) (.g (.cat (.s 3) (.lit 1 39)) (.g (.cat (.lit 0 0) (.s 4)) (.i (.v 5) .nil)))))) (.c 1) true, .mk true (.bin 6 .i64 (.v 1) (.bin 7 .i64 (.c (-1)) (.bin 0 .i64 (.v 6) (.c 1)))) (.bin 6 .i64 (.v 1) (.bin 7 .i64 (.c (-1)) (.v 6))) true, .mk true (.bin 6 .i64 (.v 1) (.bin 7 .i64 (.c (-1)) (.bin 0 .i64 (.v 6) (.c 1)))) (.c 0) false]
theorem w_L2 [Gv] (h0 : LtFact wLt) (hinv : lawI (Gv.σ 2) ((Gv.σ 6).headD 0) (Gv.σ 3) (Gv.σ 4) ((Gv.σ 5).headD 0)) (hn : (Gv.σ 1).headD 0 = ((Gv.σ 2).length : Int)) {r : Int} (hr : (Gv.σ 2)[((Gv.σ 6).headD 0).toNat]? = some r) (hk : r % 5 = 2) (hm : ¬ (Gv.σ 6).headD 0 = 200) : LFactT 3 15 wUs 257 wLi (.x 0 wUo) 257 wLi := by
  have hlt := (List.getElem?_eq_some_iff.1 hr).1
  have hr : ∀ y : Int, y = (Gv.σ 6).headD 0 → (Gv.σ 2).getD y.toNat 0 = r := by rintro y rfl; exact getD_of hr
  have hnext : ∀ y z : Int, y = (Gv.σ 6).headD 0 + 1 → z = (Gv.σ 5).headD 0 → lawI (Gv.σ 2) y (Gv.σ 3 ++ opn 2) (clo 2 ++ Gv.σ 4) z := by
    rintro y z rfl rfl
    have := law_step hinv (k := 2) (r := r) (by assumption) hk
    rw [if_neg hm] at this; exact this
  have hle := law_len hinv
  have hi0 := hinv.1
  have hl2 := hinv.2.2.1
  obtain ⟨i, hi⟩ : ∃ x, (Gv.σ 6).headD 0 = x := ⟨_, rfl⟩
  obtain ⟨a, ha⟩ : ∃ x, (Gv.σ 5).headD 0 = x := ⟨_, rfl⟩
  obtain ⟨l, hl⟩ : ∃ x, Gv.σ 2 = x := ⟨_, rfl⟩
  obtain ⟨s, hs⟩ : ∃ x, Gv.σ 3 = x := ⟨_, rfl⟩
  obtain ⟨b, hb⟩ : ∃ x, Gv.σ 4 = x := ⟨_, rfl⟩
  have hv1 : (SE.v 1).eval Gv.σ = (l.length : Int) := by show (Gv.σ 1).headD 0 = _; rw [hn, hl]
  have hv6 : (SE.v 6).eval Gv.σ = i := hi
  have hv5 : (SE.v 5).eval Gv.σ = a := ha
  have hvL : (SE.len (.s 2)).eval Gv.σ = (l.length : Int) := by show ((Gv.σ 2).length : Int) = _; rw [hl]
  have hvS : (SE.len (.s 3)).eval Gv.σ = (s.length : Int) := by show ((Gv.σ 3).length : Int) = _; rw [hs]
  have hvB : (SE.len (.s 4)).eval Gv.σ = (b.length : Int) := by show ((Gv.σ 4).length : Int) = _; rw [hb]
  rw [hi, hl, hs, hb, ha] at hnext
  rw [hi, hl] at hr hlt
  rw [hs, hb] at hle
  rw [hi] at hm hi0
  rw [hl] at hl2
  have e1 : (SE.rd (.s 2) (.v 6)).eval Gv.σ = r := by show (Gv.σ 2).getD ((SE.v 6).eval Gv.σ).toNat 0 = _; rw [hv6, hl]; exact hr _ (by omega)
  have e2 : (SE.bin 5 .i64 (.rd (.s 2) (.v 6)) (.c 5)).eval Gv.σ = (r % (5 : Int)) := by show (SE.rd (.s 2) (.v 6)).eval Gv.σ % (SE.c 5).eval Gv.σ = _; rw [e1, evC (5)]
  have e3 : (SE.bin 6 .i64 (.len (.s 3)) (.c 1)).eval Gv.σ = ((s.length : Int) + (1 : Int)) := by show (SE.len (.s 3)).eval Gv.σ + (SE.c 1).eval Gv.σ = _; rw [hvS, evC (1)]
  have e4 : (SE.bin 0 .i64 (.v 6) (.c 1)).eval Gv.σ = (i + (1 : Int)) := by show IntKind.i64.wrap ((SE.v 6).eval Gv.σ + (SE.c 1).eval Gv.σ) = _; rw [hv6, evC (1), wrap64 (by omega)]
  have e6 : (SE.bin 7 .i64 (.c (-1)) (.bin 0 .i64 (.v 6) (.c 1))).eval Gv.σ = ((-1 : Int) * (i + (1 : Int))) := by show (SE.c (-1)).eval Gv.σ * (SE.bin 0 .i64 (.v 6) (.c 1)).eval Gv.σ = _; rw [evC (-1), e4]
  have e5 : (SE.bin 6 .i64 (.v 1) (.bin 7 .i64 (.c (-1)) (.bin 0 .i64 (.v 6) (.c 1)))).eval Gv.σ = ((l.length : Int) + ((-1 : Int) * (i + (1 : Int)))) := by show (SE.v 1).eval Gv.σ + (SE.bin 7 .i64 (.c (-1)) (.bin 0 .i64 (.v 6) (.c 1))).eval Gv.σ = _; rw [hv1, e6]
  have e8 : (SE.bin 7 .i64 (.c (-1)) (.v 6)).eval Gv.σ = ((-1 : Int) * i) := by show (SE.c (-1)).eval Gv.σ * (SE.v 6).eval Gv.σ = _; rw [evC (-1), hv6]
  have e7 : (SE.bin 6 .i64 (.v 1) (.bin 7 .i64 (.c (-1)) (.v 6))).eval Gv.σ = ((l.length : Int) + ((-1 : Int) * i)) := by show (SE.v 1).eval Gv.σ + (SE.bin 7 .i64 (.c (-1)) (.v 6)).eval Gv.σ = _; rw [hv1, e8]
  refine lt_of_run (n := 2000) (A := A_L2) (T := []) (E := .nil) (hooksTM_ok _ (five_mem pk0_ok pk1_ok pk2_ok pk3_ok pk4_ok)) (lpT_ok [wLt] (one_mem h0)) ?_ trivial rfl rfl (by kernel_rfl)
  unfold A_L2; simp only [sall_cons]
  exact ⟨w_inv.2 hinv,
      holdsE (by rw [hv1, hvL] <;> omega),
      holdsT (by rw [hv6, hv1] <;> omega),
      holdsF (by rw [hv6, evC (0)] <;> omega),
      holdsN (by rw [e2, evC (0)] <;> omega),
      holdsN (by rw [e2, evC (1)] <;> omega),
      holdsE (by rw [e2, evC (2)] <;> omega),
      holdsN (by rw [hv6, evC (200)] <;> omega),
      holdsF (by rw [evC (9223372036854775807), e3] <;> omega),
      holdsF (by rw [evC (9223372036854775807), hvB] <;> omega),
      w_inv.2 (by show lawI (Gv.σ 2) ((SE.bin 0 .i64 (.v 6) (.c 1)).eval Gv.σ) (Gv.σ 3 ++ (GE.lit 1 39).eval Gv.σ) ((GE.lit 0 0).eval Gv.σ ++ Gv.σ 4) ((SE.v 5).eval Gv.σ); rw [e4, hv5, lit39 Gv.σ, litN2 Gv.σ, hl, hs, hb]; exact hnext _ _ (by omega) (by omega)),
      holdsT (by rw [e5, e7] <;> omega),
      holdsF (by rw [e5, evC (0)] <;> omega), SAll.nil⟩
noncomputable def A_M2 : List SA := [.mk false (.app 25 (.g (.s 2) (.i (.v 6) (.g (.s 3) (.g (.s 4) (.i (.v 5) .nil)))))) (.c 1) true, .mk false (.v 1) (.len (.s 2)) true, .mk true (.v 6) (.v 1) true, .mk true (.v 6) (.c 0) false, .mk false (.bin 5 .i64 (.rd (.s 2) (.v 6)) (.c 5)) (.c 0) false, .mk false (.bin 5 .i64 (.rd (.s 2) (.v 6)) (.c 5)) (.c 1) false, .mk false (.bin 5 .i64 (.rd (.s 2) (.v 6)) (.c 5)) (.c 2) true, .mk false (.v 6) (.c 200) true, .mk true (.c 200) (.v 1) true, .mk false (.bin 5 .i64 (.rd (.s 2) (.c 200)) (.c 5)) (.c 0) false, .mk false (.bin 5 .i64 (.rd (.s 2) (.c 200)) (.c 5)) (.c 1) false, .mk false (.bin 5 .i64 (.rd (.s 2) (.c 200)) (.c 5)) (.c 2) true, .mk true (.c 9223372036854775807) (.bin 6 .i64 (.len (.s 3)) (.c 1)) false, .mk true (.c 9223372036854775807) (.len (.s 4)) false, .mk false (.app 25 (.g (.s 2) (.i (.c 201) (.g (.cat (.s 3) (.lit 1 39)) (.g (.cat (.lit 0 0) (.s 4)) (.i (.len (.s 3)) .nil)))))) (.c 1) true, .mk true (.bin 6 .i64 (.v 1) (.c (-201))) (.bin 6 .i64 (.v 1) (.bin 7 .i64 (.c (-1)) (.v 6))) true, .mk true (.bin 6 .i64 (.v 1) (.c (-201))) (.c 0) false]
theorem w_M2 [Gv] (h0 : LtFact wLt) (hinv : lawI (Gv.σ 2) ((Gv.σ 6).headD 0) (Gv.σ 3) (Gv.σ 4) ((Gv.σ 5).headD 0)) (hn : (Gv.σ 1).headD 0 = ((Gv.σ 2).length : Int)) {r : Int} (hr : (Gv.σ 2)[((Gv.σ 6).headD 0).toNat]? = some r) (hk : r % 5 = 2) (hm : (Gv.σ 6).headD 0 = 200) : LFactT 3 15 wUs 257 wLi (.x 0 wUo) 257 wLi := by
  have hlt := (List.getElem?_eq_some_iff.1 hr).1
  have hr : ∀ y : Int, y = (Gv.σ 6).headD 0 → (Gv.σ 2).getD y.toNat 0 = r := by rintro y rfl; exact getD_of hr
  have hnext : ∀ y z : Int, y = (Gv.σ 6).headD 0 + 1 → z = ((Gv.σ 3).length : Int) → lawI (Gv.σ 2) y (Gv.σ 3 ++ opn 2) (clo 2 ++ Gv.σ 4) z := by
    rintro y z rfl rfl
    have := law_step hinv (k := 2) (r := r) (by assumption) hk
    rw [if_pos hm] at this; exact this
  have hle := law_len hinv
  have hi0 := hinv.1
  have hl2 := hinv.2.2.1
  obtain ⟨i, hi⟩ : ∃ x, (Gv.σ 6).headD 0 = x := ⟨_, rfl⟩
  obtain ⟨a, ha⟩ : ∃ x, (Gv.σ 5).headD 0 = x := ⟨_, rfl⟩
  obtain ⟨l, hl⟩ : ∃ x, Gv.σ 2 = x := ⟨_, rfl⟩
  obtain ⟨s, hs⟩ : ∃ x, Gv.σ 3 = x := ⟨_, rfl⟩
  obtain ⟨b, hb⟩ : ∃ x, Gv.σ 4 = x := ⟨_, rfl⟩
  have hv1 : (SE.v 1).eval Gv.σ = (l.length : Int) := by show (Gv.σ 1).headD 0 = _; rw [hn, hl]
  have hv6 : (SE.v 6).eval Gv.σ = i := hi
  have hv5 : (SE.v 5).eval Gv.σ = a := ha
  have hvL : (SE.len (.s 2)).eval Gv.σ = (l.length : Int) := by show ((Gv.σ 2).length : Int) = _; rw [hl]
  have hvS : (SE.len (.s 3)).eval Gv.σ = (s.length : Int) := by show ((Gv.σ 3).length : Int) = _; rw [hs]
  have hvB : (SE.len (.s 4)).eval Gv.σ = (b.length : Int) := by show ((Gv.σ 4).length : Int) = _; rw [hb]
  rw [hi, hl, hs, hb] at hnext
  rw [hi, hl] at hr hlt
  rw [hs, hb] at hle
  rw [hi] at hm hi0
  rw [hl] at hl2
  have e1 : (SE.rd (.s 2) (.v 6)).eval Gv.σ = r := by show (Gv.σ 2).getD ((SE.v 6).eval Gv.σ).toNat 0 = _; rw [hv6, hl]; exact hr _ (by omega)
  have e2 : (SE.bin 5 .i64 (.rd (.s 2) (.v 6)) (.c 5)).eval Gv.σ = (r % (5 : Int)) := by show (SE.rd (.s 2) (.v 6)).eval Gv.σ % (SE.c 5).eval Gv.σ = _; rw [e1, evC (5)]
  have e3 : (SE.rd (.s 2) (.c 200)).eval Gv.σ = r := by show (Gv.σ 2).getD ((SE.c 200).eval Gv.σ).toNat 0 = _; rw [evC (200), hl]; exact hr _ (by omega)
  have e4 : (SE.bin 5 .i64 (.rd (.s 2) (.c 200)) (.c 5)).eval Gv.σ = (r % (5 : Int)) := by show (SE.rd (.s 2) (.c 200)).eval Gv.σ % (SE.c 5).eval Gv.σ = _; rw [e3, evC (5)]
  have e5 : (SE.bin 6 .i64 (.len (.s 3)) (.c 1)).eval Gv.σ = ((s.length : Int) + (1 : Int)) := by show (SE.len (.s 3)).eval Gv.σ + (SE.c 1).eval Gv.σ = _; rw [hvS, evC (1)]
  have e6 : (SE.bin 6 .i64 (.v 1) (.c (-201))).eval Gv.σ = ((l.length : Int) + (-201 : Int)) := by show (SE.v 1).eval Gv.σ + (SE.c (-201)).eval Gv.σ = _; rw [hv1, evC (-201)]
  have e8 : (SE.bin 7 .i64 (.c (-1)) (.v 6)).eval Gv.σ = ((-1 : Int) * i) := by show (SE.c (-1)).eval Gv.σ * (SE.v 6).eval Gv.σ = _; rw [evC (-1), hv6]
  have e7 : (SE.bin 6 .i64 (.v 1) (.bin 7 .i64 (.c (-1)) (.v 6))).eval Gv.σ = ((l.length : Int) + ((-1 : Int) * i)) := by show (SE.v 1).eval Gv.σ + (SE.bin 7 .i64 (.c (-1)) (.v 6)).eval Gv.σ = _; rw [hv1, e8]
  refine lt_of_run (n := 2000) (A := A_M2) (T := []) (E := .nil) (hooksTM_ok _ (five_mem pk0_ok pk1_ok pk2_ok pk3_ok pk4_ok)) (lpT_ok [wLt] (one_mem h0)) ?_ trivial rfl rfl (by kernel_rfl)
  unfold A_M2; simp only [sall_cons]
  exact ⟨w_inv.2 hinv,
      holdsE (by rw [hv1, hvL] <;> omega),
      holdsT (by rw [hv6, hv1] <;> omega),
      holdsF (by rw [hv6, evC (0)] <;> omega),
      holdsN (by rw [e2, evC (0)] <;> omega),
      holdsN (by rw [e2, evC (1)] <;> omega),
      holdsE (by rw [e2, evC (2)] <;> omega),
      holdsE (by rw [hv6, evC (200)] <;> omega),
      holdsT (by rw [evC (200), hv1] <;> omega),
      holdsN (by rw [e4, evC (0)] <;> omega),
      holdsN (by rw [e4, evC (1)] <;> omega),
      holdsE (by rw [e4, evC (2)] <;> omega),
      holdsF (by rw [evC (9223372036854775807), e5] <;> omega),
      holdsF (by rw [evC (9223372036854775807), hvB] <;> omega),
      w_inv.2 (by show lawI (Gv.σ 2) ((SE.c 201).eval Gv.σ) (Gv.σ 3 ++ (GE.lit 1 39).eval Gv.σ) ((GE.lit 0 0).eval Gv.σ ++ Gv.σ 4) ((SE.len (.s 3)).eval Gv.σ); rw [evC (201), hvS, lit39 Gv.σ, litN2 Gv.σ, hl, hs, hb]; exact hnext _ _ (by omega) (by omega)),
      holdsT (by rw [e6, e7] <;> omega),
      holdsF (by rw [e6, evC (0)] <;> omega), SAll.nil⟩
noncomputable def A_L3 : List SA := [.mk false (.app 25 (.g (.s 2) (.i (.v 6) (.g (.s 3) (.g (.s 4) (.i (.v 5) .nil)))))) (.c 1) true, .mk false (.v 1) (.len (.s 2)) true, .mk true (.v 6) (.v 1) true, .mk true (.v 6) (.c 0) false, .mk false (.bin 5 .i64 (.rd (.s 2) (.v 6)) (.c 5)) (.c 0) false, .mk false (.bin 5 .i64 (.rd (.s 2) (.v 6)) (.c 5)) (.c 1) false, .mk false (.bin 5 .i64 (.rd (.s 2) (.v 6)) (.c 5)) (.c 2) false, .mk false (.bin 5 .i64 (.rd (.s 2) (.v 6)) (.c 5)) (.c 3) true, .mk false (.v 6) (.c 200) false, .mk true (.c 9223372036854775807) (.bin 6 .i64 (.len (.s 3)) (.c 2)) false, .mk true (.c 9223372036854775807) (.len (.s 4)) false, .mk false (.app 25 (.g (.s 2) (.i (.bin 0 .i64 (.v 6) (.c 1)) (.g (.cat (.s 3) (.lit 2 11328)) (.g (.cat (.lit 0 0) (.s 4)) (.i (.v 5) .nil)))))) (.c 1) true, .mk true (.bin 6 .i64 (.v 1) (.bin 7 .i64 (.c (-1)) (.bin 0 .i64 (.v 6) (.c 1)))) (.bin 6 .i64 (.v 1) (.bin 7 .i64 (.c (-1)) (.v 6))) true, .mk true (.bin 6 .i64 (.v 1) (.bin 7 .i64 (.c (-1)) (.bin 0 .i64 (.v 6) (.c 1)))) (.c 0) false]
theorem w_L3 [Gv] (h0 : LtFact wLt) (hinv : lawI (Gv.σ 2) ((Gv.σ 6).headD 0) (Gv.σ 3) (Gv.σ 4) ((Gv.σ 5).headD 0)) (hn : (Gv.σ 1).headD 0 = ((Gv.σ 2).length : Int)) {r : Int} (hr : (Gv.σ 2)[((Gv.σ 6).headD 0).toNat]? = some r) (hk : r % 5 = 3) (hm : ¬ (Gv.σ 6).headD 0 = 200) : LFactT 3 15 wUs 257 wLi (.x 0 wUo) 257 wLi := by
  have hlt := (List.getElem?_eq_some_iff.1 hr).1
  have hr : ∀ y : Int, y = (Gv.σ 6).headD 0 → (Gv.σ 2).getD y.toNat 0 = r := by rintro y rfl; exact getD_of hr
  have hnext : ∀ y z : Int, y = (Gv.σ 6).headD 0 + 1 → z = (Gv.σ 5).headD 0 → lawI (Gv.σ 2) y (Gv.σ 3 ++ opn 3) (clo 3 ++ Gv.σ 4) z := by
    rintro y z rfl rfl
    have := law_step hinv (k := 3) (r := r) (by assumption) hk
    rw [if_neg hm] at this; exact this
  have hle := law_len hinv
  have hi0 := hinv.1
  have hl2 := hinv.2.2.1
  obtain ⟨i, hi⟩ : ∃ x, (Gv.σ 6).headD 0 = x := ⟨_, rfl⟩
  obtain ⟨a, ha⟩ : ∃ x, (Gv.σ 5).headD 0 = x := ⟨_, rfl⟩
  obtain ⟨l, hl⟩ : ∃ x, Gv.σ 2 = x := ⟨_, rfl⟩
  obtain ⟨s, hs⟩ : ∃ x, Gv.σ 3 = x := ⟨_, rfl⟩
  obtain ⟨b, hb⟩ : ∃ x, Gv.σ 4 = x := ⟨_, rfl⟩
  have hv1 : (SE.v 1).eval Gv.σ = (l.length : Int) := by show (Gv.σ 1).headD 0 = _; rw [hn, hl]
  have hv6 : (SE.v 6).eval Gv.σ = i := hi
  have hv5 : (SE.v 5).eval Gv.σ = a := ha
  have hvL : (SE.len (.s 2)).eval Gv.σ = (l.length : Int) := by show ((Gv.σ 2).length : Int) = _; rw [hl]
  have hvS : (SE.len (.s 3)).eval Gv.σ = (s.length : Int) := by show ((Gv.σ 3).length : Int) = _; rw [hs]
  have hvB : (SE.len (.s 4)).eval Gv.σ = (b.length : Int) := by show ((Gv.σ 4).length : Int) = _; rw [hb]
  rw [hi, hl, hs, hb, ha] at hnext
  rw [hi, hl] at hr hlt
  rw [hs, hb] at hle
  rw [hi] at hm hi0
  rw [hl] at hl2
  have e1 : (SE.rd (.s 2) (.v 6)).eval Gv.σ = r := by show (Gv.σ 2).getD ((SE.v 6).eval Gv.σ).toNat 0 = _; rw [hv6, hl]; exact hr _ (by omega)
  have e2 : (SE.bin 5 .i64 (.rd (.s 2) (.v 6)) (.c 5)).eval Gv.σ = (r % (5 : Int)) := by show (SE.rd (.s 2) (.v 6)).eval Gv.σ % (SE.c 5).eval Gv.σ = _; rw [e1, evC (5)]
  have e3 : (SE.bin 6 .i64 (.len (.s 3)) (.c 2)).eval Gv.σ = ((s.length : Int) + (2 : Int)) := by show (SE.len (.s 3)).eval Gv.σ + (SE.c 2).eval Gv.σ = _; rw [hvS, evC (2)]
  have e4 : (SE.bin 0 .i64 (.v 6) (.c 1)).eval Gv.σ = (i + (1 : Int)) := by show IntKind.i64.wrap ((SE.v 6).eval Gv.σ + (SE.c 1).eval Gv.σ) = _; rw [hv6, evC (1), wrap64 (by omega)]
  have e6 : (SE.bin 7 .i64 (.c (-1)) (.bin 0 .i64 (.v 6) (.c 1))).eval Gv.σ = ((-1 : Int) * (i + (1 : Int))) := by show (SE.c (-1)).eval Gv.σ * (SE.bin 0 .i64 (.v 6) (.c 1)).eval Gv.σ = _; rw [evC (-1), e4]
  have e5 : (SE.bin 6 .i64 (.v 1) (.bin 7 .i64 (.c (-1)) (.bin 0 .i64 (.v 6) (.c 1)))).eval Gv.σ = ((l.length : Int) + ((-1 : Int) * (i + (1 : Int)))) := by show (SE.v 1).eval Gv.σ + (SE.bin 7 .i64 (.c (-1)) (.bin 0 .i64 (.v 6) (.c 1))).eval Gv.σ = _; rw [hv1, e6]
  have e8 : (SE.bin 7 .i64 (.c (-1)) (.v 6)).eval Gv.σ = ((-1 : Int) * i) := by show (SE.c (-1)).eval Gv.σ * (SE.v 6).eval Gv.σ = _; rw [evC (-1), hv6]
  have e7 : (SE.bin 6 .i64 (.v 1) (.bin 7 .i64 (.c (-1)) (.v 6))).eval Gv.σ = ((l.length : Int) + ((-1 : Int) * i)) := by show (SE.v 1).eval Gv.σ + (SE.bin 7 .i64 (.c (-1)) (.v 6)).eval Gv.σ = _; rw [hv1, e8]
  refine lt_of_run (n := 2000) (A := A_L3) (T := []) (E := .nil) (hooksTM_ok _ (five_mem pk0_ok pk1_ok pk2_ok pk3_ok pk4_ok)) (lpT_ok [wLt] (one_mem h0)) ?_ trivial rfl rfl (by kernel_rfl)
  unfold A_L3; simp only [sall_cons]
  exact ⟨w_inv.2 hinv,
      holdsE (by rw [hv1, hvL] <;> omega),
      holdsT (by rw [hv6, hv1] <;> omega),
      holdsF (by rw [hv6, evC (0)] <;> omega),
      holdsN (by rw [e2, evC (0)] <;> omega),
      holdsN (by rw [e2, evC (1)] <;> omega),
      holdsN (by rw [e2, evC (2)] <;> omega),
      holdsE (by rw [e2, evC (3)] <;> omega),
      holdsN (by rw [hv6, evC (200)] <;> omega),
      holdsF (by rw [evC (9223372036854775807), e3] <;> omega),
      holdsF (by rw [evC (9223372036854775807), hvB] <;> omega),
      w_inv.2 (by show lawI (Gv.σ 2) ((SE.bin 0 .i64 (.v 6) (.c 1)).eval Gv.σ) (Gv.σ 3 ++ (GE.lit 2 11328).eval Gv.σ) ((GE.lit 0 0).eval Gv.σ ++ Gv.σ 4) ((SE.v 5).eval Gv.σ); rw [e4, hv5, litSp Gv.σ, litN2 Gv.σ, hl, hs, hb]; exact hnext _ _ (by omega) (by omega)),
      holdsT (by rw [e5, e7] <;> omega),
      holdsF (by rw [e5, evC (0)] <;> omega), SAll.nil⟩
noncomputable def A_M3 : List SA := [.mk false (.app 25 (.g (.s 2) (.i (.v 6) (.g (.s 3) (.g (.s 4) (.i (.v 5) .nil)))))) (.c 1) true, .mk false (.v 1) (.len (.s 2)) true, .mk true (.v 6) (.v 1) true, .mk true (.v 6) (.c 0) false, .mk false (.bin 5 .i64 (.rd (.s 2) (.v 6)) (.c 5)) (.c 0) false, .mk false (.bin 5 .i64 (.rd (.s 2) (.v 6)) (.c 5)) (.c 1) false, .mk false (.bin 5 .i64 (.rd (.s 2) (.v 6)) (.c 5)) (.c 2) false, .mk false (.bin 5 .i64 (.rd (.s 2) (.v 6)) (.c 5)) (.c 3) true, .mk false (.v 6) (.c 200) true, .mk true (.c 200) (.v 1) true, .mk false (.bin 5 .i64 (.rd (.s 2) (.c 200)) (.c 5)) (.c 0) false, .mk false (.bin 5 .i64 (.rd (.s 2) (.c 200)) (.c 5)) (.c 1) false, .mk false (.bin 5 .i64 (.rd (.s 2) (.c 200)) (.c 5)) (.c 2) false, .mk false (.bin 5 .i64 (.rd (.s 2) (.c 200)) (.c 5)) (.c 3) true, .mk true (.c 9223372036854775807) (.bin 6 .i64 (.len (.s 3)) (.c 2)) false, .mk true (.c 9223372036854775807) (.len (.s 4)) false, .mk false (.app 25 (.g (.s 2) (.i (.c 201) (.g (.cat (.s 3) (.lit 2 11328)) (.g (.cat (.lit 0 0) (.s 4)) (.i (.len (.s 3)) .nil)))))) (.c 1) true, .mk true (.bin 6 .i64 (.v 1) (.c (-201))) (.bin 6 .i64 (.v 1) (.bin 7 .i64 (.c (-1)) (.v 6))) true, .mk true (.bin 6 .i64 (.v 1) (.c (-201))) (.c 0) false]
theorem w_M3 [Gv] (h0 : LtFact wLt) (hinv : lawI (Gv.σ 2) ((Gv.σ 6).headD 0) (Gv.σ 3) (Gv.σ 4) ((Gv.σ 5).headD 0)) (hn : (Gv.σ 1).headD 0 = ((Gv.σ 2).length : Int)) {r : Int} (hr : (Gv.σ 2)[((Gv.σ 6).headD 0).toNat]? = some r) (hk : r % 5 = 3) (hm : (Gv.σ 6).headD 0 = 200) : LFactT 3 15 wUs 257 wLi (.x 0 wUo) 257 wLi := by
  have hlt := (List.getElem?_eq_some_iff.1 hr).1
  have hr : ∀ y : Int, y = (Gv.σ 6).headD 0 → (Gv.σ 2).getD y.toNat 0 = r := by rintro y rfl; exact getD_of hr
  have hnext : ∀ y z : Int, y = (Gv.σ 6).headD 0 + 1 → z = ((Gv.σ 3).length : Int) → lawI (Gv.σ 2) y (Gv.σ 3 ++ opn 3) (clo 3 ++ Gv.σ 4) z := by
    rintro y z rfl rfl
    have := law_step hinv (k := 3) (r := r) (by assumption) hk
    rw [if_pos hm] at this; exact this
  have hle := law_len hinv
  have hi0 := hinv.1
  have hl2 := hinv.2.2.1
  obtain ⟨i, hi⟩ : ∃ x, (Gv.σ 6).headD 0 = x := ⟨_, rfl⟩
  obtain ⟨a, ha⟩ : ∃ x, (Gv.σ 5).headD 0 = x := ⟨_, rfl⟩
  obtain ⟨l, hl⟩ : ∃ x, Gv.σ 2 = x := ⟨_, rfl⟩
  obtain ⟨s, hs⟩ : ∃ x, Gv.σ 3 = x := ⟨_, rfl⟩
  obtain ⟨b, hb⟩ : ∃ x, Gv.σ 4 = x := ⟨_, rfl⟩
  have hv1 : (SE.v 1).eval Gv.σ = (l.length : Int) := by show (Gv.σ 1).headD 0 = _; rw [hn, hl]
  have hv6 : (SE.v 6).eval Gv.σ = i := hi
  have hv5 : (SE.v 5).eval Gv.σ = a := ha
  have hvL : (SE.len (.s 2)).eval Gv.σ = (l.length : Int) := by show ((Gv.σ 2).length : Int) = _; rw [hl]
  have hvS : (SE.len (.s 3)).eval Gv.σ = (s.length : Int) := by show ((Gv.σ 3).length : Int) = _; rw [hs]
  have hvB : (SE.len (.s 4)).eval Gv.σ = (b.length : Int) := by show ((Gv.σ 4).length : Int) = _; rw [hb]
  rw [hi, hl, hs, hb] at hnext
  rw [hi, hl] at hr hlt
  rw [hs, hb] at hle
  rw [hi] at hm hi0
  rw [hl] at hl2
  have e1 : (SE.rd (.s 2) (.v 6)).eval Gv.σ = r := by show (Gv.σ 2).getD ((SE.v 6).eval Gv.σ).toNat 0 = _; rw [hv6, hl]; exact hr _ (by omega)
  have e2 : (SE.bin 5 .i64 (.rd (.s 2) (.v 6)) (.c 5)).eval Gv.σ = (r % (5 : Int)) := by show (SE.rd (.s 2) (.v 6)).eval Gv.σ % (SE.c 5).eval Gv.σ = _; rw [e1, evC (5)]
  have e3 : (SE.rd (.s 2) (.c 200)).eval Gv.σ = r := by show (Gv.σ 2).getD ((SE.c 200).eval Gv.σ).toNat 0 = _; rw [evC (200), hl]; exact hr _ (by omega)
  have e4 : (SE.bin 5 .i64 (.rd (.s 2) (.c 200)) (.c 5)).eval Gv.σ = (r % (5 : Int)) := by show (SE.rd (.s 2) (.c 200)).eval Gv.σ % (SE.c 5).eval Gv.σ = _; rw [e3, evC (5)]
  have e5 : (SE.bin 6 .i64 (.len (.s 3)) (.c 2)).eval Gv.σ = ((s.length : Int) + (2 : Int)) := by show (SE.len (.s 3)).eval Gv.σ + (SE.c 2).eval Gv.σ = _; rw [hvS, evC (2)]
  have e6 : (SE.bin 6 .i64 (.v 1) (.c (-201))).eval Gv.σ = ((l.length : Int) + (-201 : Int)) := by show (SE.v 1).eval Gv.σ + (SE.c (-201)).eval Gv.σ = _; rw [hv1, evC (-201)]
  have e8 : (SE.bin 7 .i64 (.c (-1)) (.v 6)).eval Gv.σ = ((-1 : Int) * i) := by show (SE.c (-1)).eval Gv.σ * (SE.v 6).eval Gv.σ = _; rw [evC (-1), hv6]
  have e7 : (SE.bin 6 .i64 (.v 1) (.bin 7 .i64 (.c (-1)) (.v 6))).eval Gv.σ = ((l.length : Int) + ((-1 : Int) * i)) := by show (SE.v 1).eval Gv.σ + (SE.bin 7 .i64 (.c (-1)) (.v 6)).eval Gv.σ = _; rw [hv1, e8]
  refine lt_of_run (n := 2000) (A := A_M3) (T := []) (E := .nil) (hooksTM_ok _ (five_mem pk0_ok pk1_ok pk2_ok pk3_ok pk4_ok)) (lpT_ok [wLt] (one_mem h0)) ?_ trivial rfl rfl (by kernel_rfl)
  unfold A_M3; simp only [sall_cons]
  exact ⟨w_inv.2 hinv,
      holdsE (by rw [hv1, hvL] <;> omega),
      holdsT (by rw [hv6, hv1] <;> omega),
      holdsF (by rw [hv6, evC (0)] <;> omega),
      holdsN (by rw [e2, evC (0)] <;> omega),
      holdsN (by rw [e2, evC (1)] <;> omega),
      holdsN (by rw [e2, evC (2)] <;> omega),
      holdsE (by rw [e2, evC (3)] <;> omega),
      holdsE (by rw [hv6, evC (200)] <;> omega),
      holdsT (by rw [evC (200), hv1] <;> omega),
      holdsN (by rw [e4, evC (0)] <;> omega),
      holdsN (by rw [e4, evC (1)] <;> omega),
      holdsN (by rw [e4, evC (2)] <;> omega),
      holdsE (by rw [e4, evC (3)] <;> omega),
      holdsF (by rw [evC (9223372036854775807), e5] <;> omega),
      holdsF (by rw [evC (9223372036854775807), hvB] <;> omega),
      w_inv.2 (by show lawI (Gv.σ 2) ((SE.c 201).eval Gv.σ) (Gv.σ 3 ++ (GE.lit 2 11328).eval Gv.σ) ((GE.lit 0 0).eval Gv.σ ++ Gv.σ 4) ((SE.len (.s 3)).eval Gv.σ); rw [evC (201), hvS, litSp Gv.σ, litN2 Gv.σ, hl, hs, hb]; exact hnext _ _ (by omega) (by omega)),
      holdsT (by rw [e6, e7] <;> omega),
      holdsF (by rw [e6, evC (0)] <;> omega), SAll.nil⟩
noncomputable def A_L4 : List SA := [.mk false (.app 25 (.g (.s 2) (.i (.v 6) (.g (.s 3) (.g (.s 4) (.i (.v 5) .nil)))))) (.c 1) true, .mk false (.v 1) (.len (.s 2)) true, .mk true (.v 6) (.v 1) true, .mk true (.v 6) (.c 0) false, .mk false (.bin 5 .i64 (.rd (.s 2) (.v 6)) (.c 5)) (.c 0) false, .mk false (.bin 5 .i64 (.rd (.s 2) (.v 6)) (.c 5)) (.c 1) false, .mk false (.bin 5 .i64 (.rd (.s 2) (.v 6)) (.c 5)) (.c 2) false, .mk false (.bin 5 .i64 (.rd (.s 2) (.v 6)) (.c 5)) (.c 3) false, .mk false (.bin 5 .i64 (.rd (.s 2) (.v 6)) (.c 5)) (.c 4) true, .mk false (.v 6) (.c 200) false, .mk true (.c 9223372036854775807) (.bin 6 .i64 (.len (.s 3)) (.c 2)) false, .mk true (.c 9223372036854775807) (.len (.s 4)) false, .mk false (.app 25 (.g (.s 2) (.i (.bin 0 .i64 (.v 6) (.c 1)) (.g (.cat (.s 3) (.lit 2 8999)) (.g (.cat (.lit 0 0) (.s 4)) (.i (.v 5) .nil)))))) (.c 1) true, .mk true (.bin 6 .i64 (.v 1) (.bin 7 .i64 (.c (-1)) (.bin 0 .i64 (.v 6) (.c 1)))) (.bin 6 .i64 (.v 1) (.bin 7 .i64 (.c (-1)) (.v 6))) true, .mk true (.bin 6 .i64 (.v 1) (.bin 7 .i64 (.c (-1)) (.bin 0 .i64 (.v 6) (.c 1)))) (.c 0) false]
theorem w_L4 [Gv] (h0 : LtFact wLt) (hinv : lawI (Gv.σ 2) ((Gv.σ 6).headD 0) (Gv.σ 3) (Gv.σ 4) ((Gv.σ 5).headD 0)) (hn : (Gv.σ 1).headD 0 = ((Gv.σ 2).length : Int)) {r : Int} (hr : (Gv.σ 2)[((Gv.σ 6).headD 0).toNat]? = some r) (hk : r % 5 = 4) (hm : ¬ (Gv.σ 6).headD 0 = 200) : LFactT 3 15 wUs 257 wLi (.x 0 wUo) 257 wLi := by
  have hlt := (List.getElem?_eq_some_iff.1 hr).1
  have hr : ∀ y : Int, y = (Gv.σ 6).headD 0 → (Gv.σ 2).getD y.toNat 0 = r := by rintro y rfl; exact getD_of hr
  have hnext : ∀ y z : Int, y = (Gv.σ 6).headD 0 + 1 → z = (Gv.σ 5).headD 0 → lawI (Gv.σ 2) y (Gv.σ 3 ++ opn 4) (clo 4 ++ Gv.σ 4) z := by
    rintro y z rfl rfl
    have := law_step hinv (k := 4) (r := r) (by assumption) hk
    rw [if_neg hm] at this; exact this
  have hle := law_len hinv
  have hi0 := hinv.1
  have hl2 := hinv.2.2.1
  obtain ⟨i, hi⟩ : ∃ x, (Gv.σ 6).headD 0 = x := ⟨_, rfl⟩
  obtain ⟨a, ha⟩ : ∃ x, (Gv.σ 5).headD 0 = x := ⟨_, rfl⟩
  obtain ⟨l, hl⟩ : ∃ x, Gv.σ 2 = x := ⟨_, rfl⟩
  obtain ⟨s, hs⟩ : ∃ x, Gv.σ 3 = x := ⟨_, rfl⟩
  obtain ⟨b, hb⟩ : ∃ x, Gv.σ 4 = x := ⟨_, rfl⟩
  have hv1 : (SE.v 1).eval Gv.σ = (l.length : Int) := by show (Gv.σ 1).headD 0 = _; rw [hn, hl]
  have hv6 : (SE.v 6).eval Gv.σ = i := hi
  have hv5 : (SE.v 5).eval Gv.σ = a := ha
  have hvL : (SE.len (.s 2)).eval Gv.σ = (l.length : Int) := by show ((Gv.σ 2).length : Int) = _; rw [hl]
  have hvS : (SE.len (.s 3)).eval Gv.σ = (s.length : Int) := by show ((Gv.σ 3).length : Int) = _; rw [hs]
  have hvB : (SE.len (.s 4)).eval Gv.σ = (b.length : Int) := by show ((Gv.σ 4).length : Int) = _; rw [hb]
  rw [hi, hl, hs, hb, ha] at hnext
  rw [hi, hl] at hr hlt
  rw [hs, hb] at hle
  rw [hi] at hm hi0
  rw [hl] at hl2
  have e1 : (SE.rd (.s 2) (.v 6)).eval Gv.σ = r := by show (Gv.σ 2).getD ((SE.v 6).eval Gv.σ).toNat 0 = _; rw [hv6, hl]; exact hr _ (by omega)
  have e2 : (SE.bin 5 .i64 (.rd (.s 2) (.v 6)) (.c 5)).eval Gv.σ = (r % (5 : Int)) := by show (SE.rd (.s 2) (.v 6)).eval Gv.σ % (SE.c 5).eval Gv.σ = _; rw [e1, evC (5)]
  have e3 : (SE.bin 6 .i64 (.len (.s 3)) (.c 2)).eval Gv.σ = ((s.length : Int) + (2 : Int)) := by show (SE.len (.s 3)).eval Gv.σ + (SE.c 2).eval Gv.σ = _; rw [hvS, evC (2)]
  have e4 : (SE.bin 0 .i64 (.v 6) (.c 1)).eval Gv.σ = (i + (1 : Int)) := by show IntKind.i64.wrap ((SE.v 6).eval Gv.σ + (SE.c 1).eval Gv.σ) = _; rw [hv6, evC (1), wrap64 (by omega)]
  have e6 : (SE.bin 7 .i64 (.c (-1)) (.bin 0 .i64 (.v 6) (.c 1))).eval Gv.σ = ((-1 : Int) * (i + (1 : Int))) := by show (SE.c (-1)).eval Gv.σ * (SE.bin 0 .i64 (.v 6) (.c 1)).eval Gv.σ = _; rw [evC (-1), e4]
  have e5 : (SE.bin 6 .i64 (.v 1) (.bin 7 .i64 (.c (-1)) (.bin 0 .i64 (.v 6) (.c 1)))).eval Gv.σ = ((l.length : Int) + ((-1 : Int) * (i + (1 : Int)))) := by show (SE.v 1).eval Gv.σ + (SE.bin 7 .i64 (.c (-1)) (.bin 0 .i64 (.v 6) (.c 1))).eval Gv.σ = _; rw [hv1, e6]
  have e8 : (SE.bin 7 .i64 (.c (-1)) (.v 6)).eval Gv.σ = ((-1 : Int) * i) := by show (SE.c (-1)).eval Gv.σ * (SE.v 6).eval Gv.σ = _; rw [evC (-1), hv6]
  have e7 : (SE.bin 6 .i64 (.v 1) (.bin 7 .i64 (.c (-1)) (.v 6))).eval Gv.σ = ((l.length : Int) + ((-1 : Int) * i)) := by show (SE.v 1).eval Gv.σ + (SE.bin 7 .i64 (.c (-1)) (.v 6)).eval Gv.σ = _; rw [hv1, e8]
  refine lt_of_run (n := 2000) (A := A_L4) (T := []) (E := .nil) (hooksTM_ok _ (five_mem pk0_ok pk1_ok pk2_ok pk3_ok pk4_ok)) (lpT_ok [wLt] (one_mem h0)) ?_ trivial rfl rfl (by kernel_rfl)
  unfold A_L4; simp only [sall_cons]
  exact ⟨w_inv.2 hinv,
      holdsE (by rw [hv1, hvL] <;> omega),
      holdsT (by rw [hv6, hv1] <;> omega),
      holdsF (by rw [hv6, evC (0)] <;> omega),
      holdsN (by rw [e2, evC (0)] <;> omega),
      holdsN (by rw [e2, evC (1)] <;> omega),
      holdsN (by rw [e2, evC (2)] <;> omega),
      holdsN (by rw [e2, evC (3)] <;> omega),
      holdsE (by rw [e2, evC (4)] <;> omega),
      holdsN (by rw [hv6, evC (200)] <;> omega),
      holdsF (by rw [evC (9223372036854775807), e3] <;> omega),
      holdsF (by rw [evC (9223372036854775807), hvB] <;> omega),
      w_inv.2 (by show lawI (Gv.σ 2) ((SE.bin 0 .i64 (.v 6) (.c 1)).eval Gv.σ) (Gv.σ 3 ++ (GE.lit 2 8999).eval Gv.σ) ((GE.lit 0 0).eval Gv.σ ++ Gv.σ 4) ((SE.v 5).eval Gv.σ); rw [e4, hv5, litFn Gv.σ, litN2 Gv.σ, hl, hs, hb]; exact hnext _ _ (by omega) (by omega)),
      holdsT (by rw [e5, e7] <;> omega),
      holdsF (by rw [e5, evC (0)] <;> omega), SAll.nil⟩
noncomputable def A_M4 : List SA := [.mk false (.app 25 (.g (.s 2) (.i (.v 6) (.g (.s 3) (.g (.s 4) (.i (.v 5) .nil)))))) (.c 1) true, .mk false (.v 1) (.len (.s 2)) true, .mk true (.v 6) (.v 1) true, .mk true (.v 6) (.c 0) false, .mk false (.bin 5 .i64 (.rd (.s 2) (.v 6)) (.c 5)) (.c 0) false, .mk false (.bin 5 .i64 (.rd (.s 2) (.v 6)) (.c 5)) (.c 1) false, .mk false (.bin 5 .i64 (.rd (.s 2) (.v 6)) (.c 5)) (.c 2) false, .mk false (.bin 5 .i64 (.rd (.s 2) (.v 6)) (.c 5)) (.c 3) false, .mk false (.bin 5 .i64 (.rd (.s 2) (.v 6)) (.c 5)) (.c 4) true, .mk false (.v 6) (.c 200) true, .mk true (.c 200) (.v 1) true, .mk false (.bin 5 .i64 (.rd (.s 2) (.c 200)) (.c 5)) (.c 0) false, .mk false (.bin 5 .i64 (.rd (.s 2) (.c 200)) (.c 5)) (.c 1) false, .mk false (.bin 5 .i64 (.rd (.s 2) (.c 200)) (.c 5)) (.c 2) false, .mk false (.bin 5 .i64 (.rd (.s 2) (.c 200)) (.c 5)) (.c 3) false, .mk false (.bin 5 .i64 (.rd (.s 2) (.c 200)) (.c 5)) (.c 4) true, .mk true (.c 9223372036854775807) (.bin 6 .i64 (.len (.s 3)) (.c 2)) false, .mk true (.c 9223372036854775807) (.len (.s 4)) false, .mk false (.app 25 (.g (.s 2) (.i (.c 201) (.g (.cat (.s 3) (.lit 2 8999)) (.g (.cat (.lit 0 0) (.s 4)) (.i (.len (.s 3)) .nil)))))) (.c 1) true, .mk true (.bin 6 .i64 (.v 1) (.c (-201))) (.bin 6 .i64 (.v 1) (.bin 7 .i64 (.c (-1)) (.v 6))) true, .mk true (.bin 6 .i64 (.v 1) (.c (-201))) (.c 0) false]
theorem w_M4 [Gv] (h0 : LtFact wLt) (hinv : lawI (Gv.σ 2) ((Gv.σ 6).headD 0) (Gv.σ 3) (Gv.σ 4) ((Gv.σ 5).headD 0)) (hn : (Gv.σ 1).headD 0 = ((Gv.σ 2).length : Int)) {r : Int} (hr : (Gv.σ 2)[((Gv.σ 6).headD 0).toNat]? = some r) (hk : r % 5 = 4) (hm : (Gv.σ 6).headD 0 = 200) : LFactT 3 15 wUs 257 wLi (.x 0 wUo) 257 wLi := by
  have hlt := (List.getElem?_eq_some_iff.1 hr).1
  have hr : ∀ y : Int, y = (Gv.σ 6).headD 0 → (Gv.σ 2).getD y.toNat 0 = r := by rintro y rfl; exact getD_of hr
  have hnext : ∀ y z : Int, y = (Gv.σ 6).headD 0 + 1 → z = ((Gv.σ 3).length : Int) → lawI (Gv.σ 2) y (Gv.σ 3 ++ opn 4) (clo 4 ++ Gv.σ 4) z := by
    rintro y z rfl rfl
    have := law_step hinv (k := 4) (r := r) (by assumption) hk
    rw [if_pos hm] at this; exact this
  have hle := law_len hinv
  have hi0 := hinv.1
  have hl2 := hinv.2.2.1
  obtain ⟨i, hi⟩ : ∃ x, (Gv.σ 6).headD 0 = x := ⟨_, rfl⟩
  obtain ⟨a, ha⟩ : ∃ x, (Gv.σ 5).headD 0 = x := ⟨_, rfl⟩
  obtain ⟨l, hl⟩ : ∃ x, Gv.σ 2 = x := ⟨_, rfl⟩
  obtain ⟨s, hs⟩ : ∃ x, Gv.σ 3 = x := ⟨_, rfl⟩
  obtain ⟨b, hb⟩ : ∃ x, Gv.σ 4 = x := ⟨_, rfl⟩
  have hv1 : (SE.v 1).eval Gv.σ = (l.length : Int) := by show (Gv.σ 1).headD 0 = _; rw [hn, hl]
  have hv6 : (SE.v 6).eval Gv.σ = i := hi
  have hv5 : (SE.v 5).eval Gv.σ = a := ha
  have hvL : (SE.len (.s 2)).eval Gv.σ = (l.length : Int) := by show ((Gv.σ 2).length : Int) = _; rw [hl]
  have hvS : (SE.len (.s 3)).eval Gv.σ = (s.length : Int) := by show ((Gv.σ 3).length : Int) = _; rw [hs]
  have hvB : (SE.len (.s 4)).eval Gv.σ = (b.length : Int) := by show ((Gv.σ 4).length : Int) = _; rw [hb]
  rw [hi, hl, hs, hb] at hnext
  rw [hi, hl] at hr hlt
  rw [hs, hb] at hle
  rw [hi] at hm hi0
  rw [hl] at hl2
  have e1 : (SE.rd (.s 2) (.v 6)).eval Gv.σ = r := by show (Gv.σ 2).getD ((SE.v 6).eval Gv.σ).toNat 0 = _; rw [hv6, hl]; exact hr _ (by omega)
  have e2 : (SE.bin 5 .i64 (.rd (.s 2) (.v 6)) (.c 5)).eval Gv.σ = (r % (5 : Int)) := by show (SE.rd (.s 2) (.v 6)).eval Gv.σ % (SE.c 5).eval Gv.σ = _; rw [e1, evC (5)]
  have e3 : (SE.rd (.s 2) (.c 200)).eval Gv.σ = r := by show (Gv.σ 2).getD ((SE.c 200).eval Gv.σ).toNat 0 = _; rw [evC (200), hl]; exact hr _ (by omega)
  have e4 : (SE.bin 5 .i64 (.rd (.s 2) (.c 200)) (.c 5)).eval Gv.σ = (r % (5 : Int)) := by show (SE.rd (.s 2) (.c 200)).eval Gv.σ % (SE.c 5).eval Gv.σ = _; rw [e3, evC (5)]
  have e5 : (SE.bin 6 .i64 (.len (.s 3)) (.c 2)).eval Gv.σ = ((s.length : Int) + (2 : Int)) := by show (SE.len (.s 3)).eval Gv.σ + (SE.c 2).eval Gv.σ = _; rw [hvS, evC (2)]
  have e6 : (SE.bin 6 .i64 (.v 1) (.c (-201))).eval Gv.σ = ((l.length : Int) + (-201 : Int)) := by show (SE.v 1).eval Gv.σ + (SE.c (-201)).eval Gv.σ = _; rw [hv1, evC (-201)]
  have e8 : (SE.bin 7 .i64 (.c (-1)) (.v 6)).eval Gv.σ = ((-1 : Int) * i) := by show (SE.c (-1)).eval Gv.σ * (SE.v 6).eval Gv.σ = _; rw [evC (-1), hv6]
  have e7 : (SE.bin 6 .i64 (.v 1) (.bin 7 .i64 (.c (-1)) (.v 6))).eval Gv.σ = ((l.length : Int) + ((-1 : Int) * i)) := by show (SE.v 1).eval Gv.σ + (SE.bin 7 .i64 (.c (-1)) (.v 6)).eval Gv.σ = _; rw [hv1, e8]
  refine lt_of_run (n := 2000) (A := A_M4) (T := []) (E := .nil) (hooksTM_ok _ (five_mem pk0_ok pk1_ok pk2_ok pk3_ok pk4_ok)) (lpT_ok [wLt] (one_mem h0)) ?_ trivial rfl rfl (by kernel_rfl)
  unfold A_M4; simp only [sall_cons]
  exact ⟨w_inv.2 hinv,
      holdsE (by rw [hv1, hvL] <;> omega),
      holdsT (by rw [hv6, hv1] <;> omega),
      holdsF (by rw [hv6, evC (0)] <;> omega),
      holdsN (by rw [e2, evC (0)] <;> omega),
      holdsN (by rw [e2, evC (1)] <;> omega),
      holdsN (by rw [e2, evC (2)] <;> omega),
      holdsN (by rw [e2, evC (3)] <;> omega),
      holdsE (by rw [e2, evC (4)] <;> omega),
      holdsE (by rw [hv6, evC (200)] <;> omega),
      holdsT (by rw [evC (200), hv1] <;> omega),
      holdsN (by rw [e4, evC (0)] <;> omega),
      holdsN (by rw [e4, evC (1)] <;> omega),
      holdsN (by rw [e4, evC (2)] <;> omega),
      holdsN (by rw [e4, evC (3)] <;> omega),
      holdsE (by rw [e4, evC (4)] <;> omega),
      holdsF (by rw [evC (9223372036854775807), e5] <;> omega),
      holdsF (by rw [evC (9223372036854775807), hvB] <;> omega),
      w_inv.2 (by show lawI (Gv.σ 2) ((SE.c 201).eval Gv.σ) (Gv.σ 3 ++ (GE.lit 2 8999).eval Gv.σ) ((GE.lit 0 0).eval Gv.σ ++ Gv.σ 4) ((SE.len (.s 3)).eval Gv.σ); rw [evC (201), hvS, litFn Gv.σ, litN2 Gv.σ, hl, hs, hb]; exact hnext _ _ (by omega) (by omega)),
      holdsT (by rw [e6, e7] <;> omega),
      holdsF (by rw [e6, evC (0)] <;> omega), SAll.nil⟩
noncomputable def A_LX : List SA := [.mk false (.app 25 (.g (.s 2) (.i (.v 6) (.g (.s 3) (.g (.s 4) (.i (.v 5) .nil)))))) (.c 1) true, .mk false (.v 1) (.len (.s 2)) true, .mk true (.v 6) (.v 1) false]
noncomputable def E_LX : EqL := .g (.s 3) (.app 20 (.g (.s 2) (.i (.v 1) .nil))) (.g (.s 4) (.app 21 (.g (.s 2) (.i (.v 1) .nil))) (.i (.v 5) (.app 22 (.g (.s 2) (.i (.v 1) .nil))) .nil))
theorem w_LX [Gv] (hinv : lawI (Gv.σ 2) ((Gv.σ 6).headD 0) (Gv.σ 3) (Gv.σ 4) ((Gv.σ 5).headD 0)) (hn : (Gv.σ 1).headD 0 = ((Gv.σ 2).length : Int)) (hx : ¬ (Gv.σ 6).headD 0 < ((Gv.σ 2).length : Int)) : LFactT 3 15 wUs 257 wLi (.x 0 wUo) 257 wLi := by
  have hi := hinv
  obtain ⟨h1, h2, h3, h4, h5, h6⟩ := hinv
  have e : (Gv.σ 6).headD 0 = (Gv.σ 1).headD 0 := by omega
  refine lt_of_run (n := 2000) (A := A_LX) (T := []) (E := E_LX) noHook_ok noLp_ok ?_ ⟨?_, ?_, ?_, trivial⟩ rfl rfl (by kernel_rfl)
  · unfold A_LX; simp only [sall_cons]
    exact ⟨w_inv.2 hi, holdsE (by show (Gv.σ 1).headD 0 = ((Gv.σ 2).length : Int); exact hn), holdsF (by show ¬ (Gv.σ 6).headD 0 < (Gv.σ 1).headD 0; omega), SAll.nil⟩
  · show Gv.σ 3 = opnS (kindsOf ((Gv.σ 2).take ((Gv.σ 1).headD 0).toNat)); rw [h4, e]
  · show Gv.σ 4 = cloS (kindsOf ((Gv.σ 2).take ((Gv.σ 1).headD 0).toNat)); rw [h5, e]
  · show (Gv.σ 5).headD 0 = if 200 < (Gv.σ 1).headD 0 then ((opnS (kindsOf ((Gv.σ 2).take 200))).length : Int) else 0; rw [h6, e]
theorem w_one [Gv] (h0 : LtFact wLt) (hinv : lawI (Gv.σ 2) ((Gv.σ 6).headD 0) (Gv.σ 3) (Gv.σ 4) ((Gv.σ 5).headD 0)) (hn : (Gv.σ 1).headD 0 = ((Gv.σ 2).length : Int)) : LFactT 3 15 wUs 257 wLi (.x 0 wUo) 257 wLi := by
  by_cases hx : (Gv.σ 6).headD 0 < ((Gv.σ 2).length : Int)
  · have h1 := hinv.1
    have hlt : ((Gv.σ 6).headD 0).toNat < (Gv.σ 2).length := by omega
    have hr := List.getElem?_eq_getElem hlt
    generalize (Gv.σ 2)[((Gv.σ 6).headD 0).toNat] = r at hr
    have h5 : r % 5 = 0 ∨ r % 5 = 1 ∨ r % 5 = 2 ∨ r % 5 = 3 ∨ r % 5 = 4 := by omega
    by_cases hm : (Gv.σ 6).headD 0 = 200
    · rcases h5 with h | h | h | h | h
      · exact w_M0 h0 hinv hn hr h hm
      · exact w_M1 h0 hinv hn hr h hm
      · exact w_M2 h0 hinv hn hr h hm
      · exact w_M3 h0 hinv hn hr h hm
      · exact w_M4 h0 hinv hn hr h hm
    · rcases h5 with h | h | h | h | h
      · exact w_L0 h0 hinv hn hr h hm
      · exact w_L1 h0 hinv hn hr h hm
      · exact w_L2 h0 hinv hn hr h hm
      · exact w_L3 h0 hinv hn hr h hm
      · exact w_L4 h0 hinv hn hr h hm
  · exact w_LX hinv hn hx
theorem wM_eval (σ : Nat → List Int) : wM.eval σ = (σ 1).headD 0 + (-1) * (σ 6).headD 0 := rfl
theorem w_all : ∀ (B : Nat) (σ : Nat → List Int), lawI (σ 2) ((σ 6).headD 0) (σ 3) (σ 4) ((σ 5).headD 0) → (σ 1).headD 0 = ((σ 2).length : Int) → wM.eval σ < (B : Int) → @LFactT ⟨σ⟩ 3 15 wUs 257 wLi (.x 0 wUo) 257 wLi
  | 0, σ, h, hn, hb => by
    obtain ⟨h1, h2, _⟩ := h
    rw [wM_eval] at hb; omega
  | B + 1, σ, h, hn, hb => by
    refine @w_one ⟨σ⟩ ?_ h hn
    intro σ' _ hA hbd
    have hbd : 0 ≤ wM.eval σ' ∧ wM.eval σ' < wM.eval σ := hbd
    exact w_all B σ' (wI1.1 (hA wI (by simp [wI]))) (of_decide_eq_true (hA (.mk false (.v 1) (.len (.s 2)) true) (List.mem_cons_of_mem _ (List.mem_singleton.2 rfl)))) (by omega)
noncomputable def wLtU : LT := .mk 3 15 wUs 257 wLi [wI, .mk false (.v 1) (.len (.s 2)) true] none (.x 0 wUo) 257 wLi
theorem wU_ok [Gv] : LtFact wLtU := fun σ _ hA _ => w_all ((wM.eval σ).toNat + 1) σ (wI1.1 (hA wI (by simp))) (of_decide_eq_true (hA (.mk false (.v 1) (.len (.s 2)) true) (List.mem_cons_of_mem _ (List.mem_singleton.2 rfl)))) (by omega)
end Go.Ev
