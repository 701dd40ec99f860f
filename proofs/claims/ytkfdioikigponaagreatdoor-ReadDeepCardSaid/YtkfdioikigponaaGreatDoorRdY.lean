import Derived.Test.YtkfdioikigponaaGreatDoorRdQ
import Derived.Test.YtkfdioikigponaaGreatDoorRdX
set_option maxRecDepth 100000
set_option linter.all false
namespace Go.Ev
/- copyistlaw05.ReadDeep: the law at a list that is not empty. -/
noncomputable section
def zUs : List AV := [.gv (.sr (K.of 256) (.v 0) (.v 1) [])]
def zG : GE := .cat (.cat (.app 20 (.g (.s 2) (.i (.v 1) .nil))) (.lit 1 49)) (.app 21 (.g (.s 2) (.i (.v 1) .nil)))
def A_Z0 : List SA := [.mk false (.v 1) (.len (.s 2)) true, .mk true (.c 250) (.v 1) false, .mk false (.app 25 (.g (.s 2) (.i (.c 0) (.g (.lit 0 0) (.g (.lit 0 0) (.i (.c 0) .nil)))))) (.c 1) true, .mk true (.c 9223372036854775807) (.bin 6 .i64 (.len (.app 20 (.g (.s 2) (.i (.v 1) .nil)))) (.c 1)) false, .mk true (.c 9223372036854775807) (.bin 6 .i64 (.bin 6 .i64 (.len (.app 20 (.g (.s 2) (.i (.v 1) .nil)))) (.c 1)) (.len (.app 21 (.g (.s 2) (.i (.v 1) .nil))))) false, .mk false (.app 1 (.g (.cat (.cat (.app 20 (.g (.s 2) (.i (.v 1) .nil))) (.lit 1 49)) (.app 21 (.g (.s 2) (.i (.v 1) .nil)))) .nil)) (.c 1) true, .mk true (.c 0) (.bin 6 .i64 (.bin 6 .i64 (.len (.app 20 (.g (.s 2) (.i (.v 1) .nil)))) (.c 1)) (.len (.app 21 (.g (.s 2) (.i (.v 1) .nil))))) true, .mk false (.app 14 (.g (.cat (.cat (.app 20 (.g (.s 2) (.i (.v 1) .nil))) (.lit 1 49)) (.app 21 (.g (.s 2) (.i (.v 1) .nil)))) (.i (.c 0) (.i (.c 0) .nil)))) (.c 1) true, .mk true (.c 0) (.app 15 (.g (.cat (.cat (.app 20 (.g (.s 2) (.i (.v 1) .nil))) (.lit 1 49)) (.app 21 (.g (.s 2) (.i (.v 1) .nil)))) (.i (.c 0) .nil))) true, .mk true (.c 200) (.v 1) false, .mk false (.app 17 (.g (.cat (.cat (.app 20 (.g (.s 2) (.i (.v 1) .nil))) (.lit 1 49)) (.app 21 (.g (.s 2) (.i (.v 1) .nil)))) (.i (.c 0) .nil))) (.bin 0 .i64 (.bin 0 .i64 (.len (.app 20 (.g (.s 2) (.i (.v 1) .nil)))) (.c 1)) (.len (.app 21 (.g (.s 2) (.i (.v 1) .nil))))) true]
def A_ZP : List SA := [.mk false (.v 1) (.len (.s 2)) true, .mk true (.c 250) (.v 1) false, .mk false (.app 25 (.g (.s 2) (.i (.c 0) (.g (.lit 0 0) (.g (.lit 0 0) (.i (.c 0) .nil)))))) (.c 1) true, .mk true (.c 9223372036854775807) (.bin 6 .i64 (.len (.app 20 (.g (.s 2) (.i (.v 1) .nil)))) (.c 1)) false, .mk true (.c 9223372036854775807) (.bin 6 .i64 (.bin 6 .i64 (.len (.app 20 (.g (.s 2) (.i (.v 1) .nil)))) (.c 1)) (.len (.app 21 (.g (.s 2) (.i (.v 1) .nil))))) false, .mk false (.app 1 (.g (.cat (.cat (.app 20 (.g (.s 2) (.i (.v 1) .nil))) (.lit 1 49)) (.app 21 (.g (.s 2) (.i (.v 1) .nil)))) .nil)) (.c 1) true, .mk true (.c 0) (.bin 6 .i64 (.bin 6 .i64 (.len (.app 20 (.g (.s 2) (.i (.v 1) .nil)))) (.c 1)) (.len (.app 21 (.g (.s 2) (.i (.v 1) .nil))))) true, .mk false (.app 20 (.g (.cat (.cat (.app 20 (.g (.s 2) (.i (.v 1) .nil))) (.lit 1 49)) (.app 21 (.g (.s 2) (.i (.v 1) .nil)))) (.i (.c 0) (.i (.c 0) .nil)))) (.c 1) true, .mk true (.c 200) (.v 1) true, .mk false (.app 21 (.g (.cat (.cat (.app 20 (.g (.s 2) (.i (.v 1) .nil))) (.lit 1 49)) (.app 21 (.g (.s 2) (.i (.v 1) .nil)))) (.i (.c 0) (.i (.c 0) .nil)))) (.app 22 (.g (.s 2) (.i (.v 1) .nil))) true]
def A_ZX : List SA := [.mk false (.v 1) (.len (.s 2)) true, .mk true (.c 250) (.v 1) true]
end
theorem opn_asc (k : Nat) : ∀ x ∈ opn k, isAsc x := by
  unfold opn isAsc; split <;> simp
theorem clo_asc (k : Nat) : ∀ x ∈ clo k, isAsc x := by
  unfold clo isAsc; split <;> simp
theorem opnS_asc : ∀ (K : List Nat), ∀ x ∈ opnS K, isAsc x
  | [], x, h => by cases h
  | k :: K, x, h => by rcases List.mem_append.1 h with h | h; exact opn_asc k x h; exact opnS_asc K x h
theorem cloS_asc : ∀ (K : List Nat), ∀ x ∈ cloS K, isAsc x
  | [], x, h => by cases h
  | k :: K, x, h => by rcases List.mem_append.1 h with h | h; exact cloS_asc K x h; exact clo_asc k x h
theorem txt_asc {K : List Nat} (hK : K.length ≤ 250) : ascR (txt K) := by
  have h1 := opnS_len K
  have h2 := cloS_len K
  refine ⟨fun x hx => ?_, by rw [txt_eq, List.length_append, List.length_cons]; omega⟩
  rw [txt_eq] at hx
  rcases List.mem_append.1 hx with h | h
  · exact opnS_asc K x h
  · rcases List.mem_cons.1 h with rfl | h
    · exact ⟨by decide, by decide⟩
    · exact cloS_asc K x h
theorem txt_len (K : List Nat) : (txt K).length = (opnS K).length + 1 + (cloS K).length := by rw [txt_eq, List.length_append, List.length_cons]; omega
theorem lit49 : ∀ σ, (GE.lit 1 49).eval σ = [49] := fun σ => by show (bytesOf 1 49).map (fun b => (b.toNat : Int)) = _; decide +kernel
theorem lit00' : ∀ σ, (GE.lit 0 0).eval σ = [] := fun σ => by show (bytesOf 0 0).map (fun b => (b.toNat : Int)) = _; decide +kernel
theorem deep_txt {K : List Nat} (h5 : ∀ k ∈ K, k < 5) (hK : K.length ≤ 200) : deepR (txt K) 0 0 := by
  refine ⟨K, [], h5, ?_, .inl rfl, by omega, by omega, by omega, (txt_asc (by omega)).2⟩
  show txt K = _; rw [List.append_nil]
theorem over_txt {K : List Nat} (h5 : ∀ k ∈ K, k < 5) (hK : 200 < K.length) (hK' : K.length ≤ 250) : overK (txt K) 0 0 := by
  refine ⟨K.take 201, opnS (K.drop 201) ++ (49 :: cloS K), fun k hk => h5 k (List.mem_of_mem_take hk), ?_, by omega, by omega, by rw [List.length_take]; omega, (txt_asc hK').2⟩
  show txt K = _
  rw [txt_eq, ← List.append_assoc, ← opnS_app, List.take_append_drop]
theorem kz_self {K : List Nat} (h5 : ∀ k ∈ K, k < 5) : kz (txt K) = K := by
  have := kz_txt h5 []
  rwa [List.append_nil] at this
theorem law_sr [Gv] (hV : ∀ G : Gv, @VsOk G 74) {H9 : Hook} (h9 : HookOk H9) (hH : H9 = hooks [.mk 9 [] (.bool true)]) (hn : (Gv.σ 1).headD 0 = ((Gv.σ 2).length : Int)) (h1 : 1 ≤ (Gv.σ 2).length) :
    FactT 3 zUs 257 wLi (.ret (.bool true)) 257 wLi := by
  subst hH
  have hL : LpOk (lpT [wLtU]) := lpT_ok [wLtU] (one_mem wU_ok)
  have hO1 := orH_ok h9 (hooksTM_ok [gT1] (one_mem (gT1_ok hV)))
  have hOP := orH_ok h9 (hooksTM_ok [gTP] (one_mem (gTP_ok hV)))
  have hv : (SE.v 1).eval Gv.σ = ((Gv.σ 2).length : Int) := hn
  have hLE : (SA.mk false (.v 1) (.len (.s 2)) true).holds Gv.σ := holdsE (by rw [hv]; rfl)
  by_cases hx : 250 < (Gv.σ 2).length
  · refine tm_of_run (n := 4000) (A := A_ZX) (T := []) (E := .nil) hOP hL ?_ trivial rfl rfl (by kernel_rfl)
    unfold A_ZX; simp only [sall_cons]
    exact ⟨hLE, holdsT (by rw [hv]; show (250 : Int) < _; omega), SAll.nil⟩
  have hte : (Gv.σ 2).take ((SE.v 1).eval Gv.σ).toNat = Gv.σ 2 := by rw [hv]; exact List.take_of_length_le (by omega)
  obtain ⟨K, hK⟩ : ∃ K, kindsOf (Gv.σ 2) = K := ⟨_, rfl⟩
  have hKl : K.length = (Gv.σ 2).length := by rw [← hK]; exact kinds_len _
  have h5 : ∀ k ∈ K, k < 5 := by rw [← hK]; exact kinds_five _
  have e20 : (GE.app 20 (.g (.s 2) (.i (.v 1) .nil))).eval Gv.σ = opnS K := by show opnS (kindsOf ((Gv.σ 2).take ((SE.v 1).eval Gv.σ).toNat)) = _; rw [hte, hK]
  have e21 : (GE.app 21 (.g (.s 2) (.i (.v 1) .nil))).eval Gv.σ = cloS K := by show cloS (kindsOf ((Gv.σ 2).take ((SE.v 1).eval Gv.σ).toNat)) = _; rw [hte, hK]
  have eG : zG.eval Gv.σ = txt K := by
    show ((GE.app 20 (.g (.s 2) (.i (.v 1) .nil))).eval Gv.σ ++ (GE.lit 1 49).eval Gv.σ) ++ (GE.app 21 (.g (.s 2) (.i (.v 1) .nil))).eval Gv.σ = _
    rw [e20, e21, lit49, txt_eq, List.append_assoc]; rfl
  have l1 := opnS_len K
  have l2 := cloS_len K
  have lt := txt_len K
  have c20 : (SE.len (.app 20 (.g (.s 2) (.i (.v 1) .nil)))).eval Gv.σ = ((opnS K).length : Int) := by show (((GE.app 20 (.g (.s 2) (.i (.v 1) .nil))).eval Gv.σ).length : Int) = _; rw [e20]
  have c21 : (SE.len (.app 21 (.g (.s 2) (.i (.v 1) .nil)))).eval Gv.σ = ((cloS K).length : Int) := by show (((GE.app 21 (.g (.s 2) (.i (.v 1) .nil))).eval Gv.σ).length : Int) = _; rw [e21]
  have c1 : (SE.bin 6 .i64 (.len (.app 20 (.g (.s 2) (.i (.v 1) .nil)))) (.c 1)).eval Gv.σ = ((opnS K).length : Int) + 1 := by show (SE.len (.app 20 (.g (.s 2) (.i (.v 1) .nil)))).eval Gv.σ + 1 = _; rw [c20]
  have c2 : (SE.bin 6 .i64 (.bin 6 .i64 (.len (.app 20 (.g (.s 2) (.i (.v 1) .nil)))) (.c 1)) (.len (.app 21 (.g (.s 2) (.i (.v 1) .nil))))).eval Gv.σ = ((opnS K).length : Int) + 1 + ((cloS K).length : Int) := by
    show (SE.bin 6 .i64 (.len (.app 20 (.g (.s 2) (.i (.v 1) .nil)))) (.c 1)).eval Gv.σ + (SE.len (.app 21 (.g (.s 2) (.i (.v 1) .nil)))).eval Gv.σ = _
    rw [c1, c21]
  have i0 : (SA.mk false (.app 25 (.g (.s 2) (.i (.c 0) (.g (.lit 0 0) (.g (.lit 0 0) (.i (.c 0) .nil)))))) (.c 1) true).holds Gv.σ := by
    refine w_inv.2 ?_
    rw [lit00' Gv.σ]
    show lawI (Gv.σ 2) 0 [] [] 0
    exact ⟨by omega, by omega, by omega, rfl, rfl, rfl⟩
  have iA : (qA1 1 zG).holds Gv.σ := q1.2 (by rw [eG]; exact txt_asc (by omega))
  by_cases hd : (Gv.σ 2).length ≤ 200
  · have hkz : kz ((zG.eval Gv.σ).drop ((SE.c 0).eval Gv.σ).toNat) = K := by rw [eG]; exact kz_self h5
    refine tm_of_run (n := 4000) (A := A_Z0) (T := []) (E := .nil) hO1 hL ?_ trivial rfl rfl (by kernel_rfl)
    unfold A_Z0; simp only [sall_cons]
    refine ⟨hLE, holdsF ?_, i0, holdsF ?_, holdsF ?_, iA, holdsT ?_, d_inv.2 (by show deepR (zG.eval Gv.σ) 0 0; rw [eG]; exact deep_txt h5 (by omega)), holdsT ?_, holdsF ?_, holdsE ?_, SAll.nil⟩
    · rw [hv]; show ¬ (250 : Int) < _; omega
    · rw [c1]; show ¬ (9223372036854775807 : Int) < _; omega
    · rw [c2]; show ¬ (9223372036854775807 : Int) < _; omega
    · rw [c2]; show (0 : Int) < _; omega
    · show (0 : Int) < ((kz ((zG.eval Gv.σ).drop ((SE.c 0).eval Gv.σ).toNat)).length : Int); rw [hkz]; omega
    · rw [hv]; show ¬ (200 : Int) < _; omega
    · show (0 : Int) + ((txt (kz ((zG.eval Gv.σ).drop ((SE.c 0).eval Gv.σ).toNat))).length : Int) = IntKind.i64.wrap (IntKind.i64.wrap ((SE.len (.app 20 (.g (.s 2) (.i (.v 1) .nil)))).eval Gv.σ + 1) + (SE.len (.app 21 (.g (.s 2) (.i (.v 1) .nil)))).eval Gv.σ)
      rw [hkz, c20, c21, wrap64 (x := ((opnS K).length : Int) + 1) (by omega), wrap64 (by omega)]; omega
  · have hkz : kz ((zG.eval Gv.σ).drop ((SE.c 0).eval Gv.σ).toNat) = K := by rw [eG]; exact kz_self h5
    refine tm_of_run (n := 4000) (A := A_ZP) (T := []) (E := .nil) hOP hL ?_ trivial rfl rfl (by kernel_rfl)
    unfold A_ZP; simp only [sall_cons]
    refine ⟨hLE, holdsF ?_, i0, holdsF ?_, holdsF ?_, iA, holdsT ?_, o_inv'.2 (by show overK (zG.eval Gv.σ) 0 0; rw [eG]; exact over_txt h5 (by omega) (by omega)), holdsT ?_, holdsE ?_, SAll.nil⟩
    · rw [hv]; show ¬ (250 : Int) < _; omega
    · rw [c1]; show ¬ (9223372036854775807 : Int) < _; omega
    · rw [c2]; show ¬ (9223372036854775807 : Int) < _; omega
    · rw [c2]; show (0 : Int) < _; omega
    · rw [hv]; show (200 : Int) < _; omega
    · show (0 : Int) + ((opnS ((kz ((zG.eval Gv.σ).drop ((SE.c 0).eval Gv.σ).toNat)).take 200)).length : Int) = if 200 < (SE.v 1).eval Gv.σ then ((opnS (kindsOf ((Gv.σ 2).take 200))).length : Int) else 0
      rw [hkz, if_pos (by rw [hv]; omega), ← hK, Int.zero_add]
      show ((opnS (List.take 200 (List.map _ (Gv.σ 2)))).length : Int) = ((opnS (List.map _ (List.take 200 (Gv.σ 2)))).length : Int)
      rw [List.map_take]
end Go.Ev
