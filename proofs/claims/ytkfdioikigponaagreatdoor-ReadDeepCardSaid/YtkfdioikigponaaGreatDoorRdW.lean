import Derived.Test.YtkfdioikigponaaGreatDoorRdK
set_option maxRecDepth 100000
set_option linter.all false
namespace Go.Ev
/- copyistlaw05.ReadDeep: Pick of five; what its loop writes. -/
theorem tmod5 (a : Int) : (0 ≤ a → a.tmod 5 = a % 5) ∧ (a < 0 → a.tmod 5 = -((-a) % 5)) := by
  refine ⟨fun ha => Int.tmod_eq_emod_of_nonneg ha, fun ha => ?_⟩
  have := Int.tmod_eq_emod_of_nonneg (a := -a) (b := 5) (by omega)
  rw [Int.neg_tmod] at this
  omega
noncomputable section
def p5M : SE := .bin 4 .i64 (.v 0) (.c 5)
def p5V : SE := .bin 5 .i64 (.v 0) (.c 5)
def pk0 : TM := .mk 10 [.sym .i64 (.v 0) [], .int .i64 5] 256 [] [.mk false p5V (.c 0) true] none (.ret (.sym .i64 (.c 0) [])) 256 []
def pk1 : TM := .mk 10 [.sym .i64 (.v 0) [], .int .i64 5] 256 [] [.mk false p5V (.c 1) true] none (.ret (.sym .i64 (.c 1) [])) 256 []
def pk2 : TM := .mk 10 [.sym .i64 (.v 0) [], .int .i64 5] 256 [] [.mk false p5V (.c 2) true] none (.ret (.sym .i64 (.c 2) [])) 256 []
def pk3 : TM := .mk 10 [.sym .i64 (.v 0) [], .int .i64 5] 256 [] [.mk false p5V (.c 3) true] none (.ret (.sym .i64 (.c 3) [])) 256 []
def pk4 : TM := .mk 10 [.sym .i64 (.v 0) [], .int .i64 5] 256 [] [.mk false p5V (.c 4) true] none (.ret (.sym .i64 (.c 4) [])) 256 []
end
theorem pk0_ok [Gv] : TmFact pk0 := by
  intro σ _ hA _
  have hk : (σ 0).headD 0 % 5 = 0 := of_decide_eq_true (hA _ (List.mem_singleton.2 rfl))
  have hm : p5M.eval σ = Int.tmod ((σ 0).headD 0) 5 := rfl
  have h41 := tmod5 ((σ 0).headD 0)
  by_cases h : (σ 0).headD 0 < 0 ∧ ¬ (σ 0).headD 0 % 5 = 0
  · refine @tm_of_run ⟨σ⟩ _ (@noHook_ok ⟨σ⟩) _ (@noLp_ok ⟨σ⟩) 2000 _ _ _ _ [.mk true p5M (.c 0) true] _ _ _ [] (.i (.bin 0 .i64 p5M (.c 5)) (.c 0) .nil) ?_ ⟨?_, trivial⟩ rfl rfl (by kernel_rfl)
    · simp only [sall_cons]
      refine ⟨holdsT ?_, SAll.nil⟩
      rw [hm]; show _ < (0 : Int); have := h41.2 h.1; omega
    · show IntKind.i64.wrap (p5M.eval σ + 5) = 0
      have := h41.2 h.1
      rw [hm, wrap64 (by omega)]; omega
  · refine @tm_of_run ⟨σ⟩ _ (@noHook_ok ⟨σ⟩) _ (@noLp_ok ⟨σ⟩) 2000 _ _ _ _ [.mk true p5M (.c 0) false] _ _ _ [] (.i p5M (.c 0) .nil) ?_ ⟨?_, trivial⟩ rfl rfl (by kernel_rfl)
    · simp only [sall_cons]
      refine ⟨holdsF ?_, SAll.nil⟩
      rw [hm]; show ¬ _ < (0 : Int)
      by_cases h0 : 0 ≤ (σ 0).headD 0
      · have := h41.1 h0; omega
      · have := h41.2 (by omega); omega
    · show p5M.eval σ = 0
      rw [hm]
      by_cases h0 : 0 ≤ (σ 0).headD 0
      · have := h41.1 h0; omega
      · have := h41.2 (by omega); omega
theorem pk1_ok [Gv] : TmFact pk1 := by
  intro σ _ hA _
  have hk : (σ 0).headD 0 % 5 = 1 := of_decide_eq_true (hA _ (List.mem_singleton.2 rfl))
  have hm : p5M.eval σ = Int.tmod ((σ 0).headD 0) 5 := rfl
  have h41 := tmod5 ((σ 0).headD 0)
  by_cases h : (σ 0).headD 0 < 0 ∧ ¬ (σ 0).headD 0 % 5 = 0
  · refine @tm_of_run ⟨σ⟩ _ (@noHook_ok ⟨σ⟩) _ (@noLp_ok ⟨σ⟩) 2000 _ _ _ _ [.mk true p5M (.c 0) true] _ _ _ [] (.i (.bin 0 .i64 p5M (.c 5)) (.c 1) .nil) ?_ ⟨?_, trivial⟩ rfl rfl (by kernel_rfl)
    · simp only [sall_cons]
      refine ⟨holdsT ?_, SAll.nil⟩
      rw [hm]; show _ < (0 : Int); have := h41.2 h.1; omega
    · show IntKind.i64.wrap (p5M.eval σ + 5) = 1
      have := h41.2 h.1
      rw [hm, wrap64 (by omega)]; omega
  · refine @tm_of_run ⟨σ⟩ _ (@noHook_ok ⟨σ⟩) _ (@noLp_ok ⟨σ⟩) 2000 _ _ _ _ [.mk true p5M (.c 0) false] _ _ _ [] (.i p5M (.c 1) .nil) ?_ ⟨?_, trivial⟩ rfl rfl (by kernel_rfl)
    · simp only [sall_cons]
      refine ⟨holdsF ?_, SAll.nil⟩
      rw [hm]; show ¬ _ < (0 : Int)
      by_cases h0 : 0 ≤ (σ 0).headD 0
      · have := h41.1 h0; omega
      · have := h41.2 (by omega); omega
    · show p5M.eval σ = 1
      rw [hm]
      by_cases h0 : 0 ≤ (σ 0).headD 0
      · have := h41.1 h0; omega
      · have := h41.2 (by omega); omega
theorem pk2_ok [Gv] : TmFact pk2 := by
  intro σ _ hA _
  have hk : (σ 0).headD 0 % 5 = 2 := of_decide_eq_true (hA _ (List.mem_singleton.2 rfl))
  have hm : p5M.eval σ = Int.tmod ((σ 0).headD 0) 5 := rfl
  have h41 := tmod5 ((σ 0).headD 0)
  by_cases h : (σ 0).headD 0 < 0 ∧ ¬ (σ 0).headD 0 % 5 = 0
  · refine @tm_of_run ⟨σ⟩ _ (@noHook_ok ⟨σ⟩) _ (@noLp_ok ⟨σ⟩) 2000 _ _ _ _ [.mk true p5M (.c 0) true] _ _ _ [] (.i (.bin 0 .i64 p5M (.c 5)) (.c 2) .nil) ?_ ⟨?_, trivial⟩ rfl rfl (by kernel_rfl)
    · simp only [sall_cons]
      refine ⟨holdsT ?_, SAll.nil⟩
      rw [hm]; show _ < (0 : Int); have := h41.2 h.1; omega
    · show IntKind.i64.wrap (p5M.eval σ + 5) = 2
      have := h41.2 h.1
      rw [hm, wrap64 (by omega)]; omega
  · refine @tm_of_run ⟨σ⟩ _ (@noHook_ok ⟨σ⟩) _ (@noLp_ok ⟨σ⟩) 2000 _ _ _ _ [.mk true p5M (.c 0) false] _ _ _ [] (.i p5M (.c 2) .nil) ?_ ⟨?_, trivial⟩ rfl rfl (by kernel_rfl)
    · simp only [sall_cons]
      refine ⟨holdsF ?_, SAll.nil⟩
      rw [hm]; show ¬ _ < (0 : Int)
      by_cases h0 : 0 ≤ (σ 0).headD 0
      · have := h41.1 h0; omega
      · have := h41.2 (by omega); omega
    · show p5M.eval σ = 2
      rw [hm]
      by_cases h0 : 0 ≤ (σ 0).headD 0
      · have := h41.1 h0; omega
      · have := h41.2 (by omega); omega
theorem pk3_ok [Gv] : TmFact pk3 := by
  intro σ _ hA _
  have hk : (σ 0).headD 0 % 5 = 3 := of_decide_eq_true (hA _ (List.mem_singleton.2 rfl))
  have hm : p5M.eval σ = Int.tmod ((σ 0).headD 0) 5 := rfl
  have h41 := tmod5 ((σ 0).headD 0)
  by_cases h : (σ 0).headD 0 < 0 ∧ ¬ (σ 0).headD 0 % 5 = 0
  · refine @tm_of_run ⟨σ⟩ _ (@noHook_ok ⟨σ⟩) _ (@noLp_ok ⟨σ⟩) 2000 _ _ _ _ [.mk true p5M (.c 0) true] _ _ _ [] (.i (.bin 0 .i64 p5M (.c 5)) (.c 3) .nil) ?_ ⟨?_, trivial⟩ rfl rfl (by kernel_rfl)
    · simp only [sall_cons]
      refine ⟨holdsT ?_, SAll.nil⟩
      rw [hm]; show _ < (0 : Int); have := h41.2 h.1; omega
    · show IntKind.i64.wrap (p5M.eval σ + 5) = 3
      have := h41.2 h.1
      rw [hm, wrap64 (by omega)]; omega
  · refine @tm_of_run ⟨σ⟩ _ (@noHook_ok ⟨σ⟩) _ (@noLp_ok ⟨σ⟩) 2000 _ _ _ _ [.mk true p5M (.c 0) false] _ _ _ [] (.i p5M (.c 3) .nil) ?_ ⟨?_, trivial⟩ rfl rfl (by kernel_rfl)
    · simp only [sall_cons]
      refine ⟨holdsF ?_, SAll.nil⟩
      rw [hm]; show ¬ _ < (0 : Int)
      by_cases h0 : 0 ≤ (σ 0).headD 0
      · have := h41.1 h0; omega
      · have := h41.2 (by omega); omega
    · show p5M.eval σ = 3
      rw [hm]
      by_cases h0 : 0 ≤ (σ 0).headD 0
      · have := h41.1 h0; omega
      · have := h41.2 (by omega); omega
theorem pk4_ok [Gv] : TmFact pk4 := by
  intro σ _ hA _
  have hk : (σ 0).headD 0 % 5 = 4 := of_decide_eq_true (hA _ (List.mem_singleton.2 rfl))
  have hm : p5M.eval σ = Int.tmod ((σ 0).headD 0) 5 := rfl
  have h41 := tmod5 ((σ 0).headD 0)
  by_cases h : (σ 0).headD 0 < 0 ∧ ¬ (σ 0).headD 0 % 5 = 0
  · refine @tm_of_run ⟨σ⟩ _ (@noHook_ok ⟨σ⟩) _ (@noLp_ok ⟨σ⟩) 2000 _ _ _ _ [.mk true p5M (.c 0) true] _ _ _ [] (.i (.bin 0 .i64 p5M (.c 5)) (.c 4) .nil) ?_ ⟨?_, trivial⟩ rfl rfl (by kernel_rfl)
    · simp only [sall_cons]
      refine ⟨holdsT ?_, SAll.nil⟩
      rw [hm]; show _ < (0 : Int); have := h41.2 h.1; omega
    · show IntKind.i64.wrap (p5M.eval σ + 5) = 4
      have := h41.2 h.1
      rw [hm, wrap64 (by omega)]; omega
  · refine @tm_of_run ⟨σ⟩ _ (@noHook_ok ⟨σ⟩) _ (@noLp_ok ⟨σ⟩) 2000 _ _ _ _ [.mk true p5M (.c 0) false] _ _ _ [] (.i p5M (.c 4) .nil) ?_ ⟨?_, trivial⟩ rfl rfl (by kernel_rfl)
    · simp only [sall_cons]
      refine ⟨holdsF ?_, SAll.nil⟩
      rw [hm]; show ¬ _ < (0 : Int)
      by_cases h0 : 0 ≤ (σ 0).headD 0
      · have := h41.1 h0; omega
      · have := h41.2 (by omega); omega
    · show p5M.eval σ = 4
      rw [hm]
      by_cases h0 : 0 ≤ (σ 0).headD 0
      · have := h41.1 h0; omega
      · have := h41.2 (by omega); omega
theorem five_mem {α : Type} {P : α → Prop} {a b c d e : α} (h1 : P a) (h2 : P b) (h3 : P c) (h4 : P d) (h5 : P e) : ∀ t ∈ [a, b, c, d, e], P t := by
  intro t ht
  simp only [List.mem_cons, List.not_mem_nil, or_false] at ht
  rcases ht with rfl | rfl | rfl | rfl | rfl <;> assumption
theorem opnS_app : ∀ (A B : List Nat), opnS (A ++ B) = opnS A ++ opnS B
  | [], _ => rfl
  | k :: A, B => by show opn k ++ opnS (A ++ B) = (opn k ++ opnS A) ++ opnS B; rw [opnS_app A B, List.append_assoc]
theorem cloS_app : ∀ (A B : List Nat), cloS (A ++ B) = cloS B ++ cloS A
  | [], B => by show cloS B = cloS B ++ []; rw [List.append_nil]
  | k :: A, B => by show cloS (A ++ B) ++ clo k = cloS B ++ (cloS A ++ clo k); rw [cloS_app A B, List.append_assoc]
theorem opnS_len : ∀ K : List Nat, K.length ≤ (opnS K).length ∧ (opnS K).length ≤ 2 * K.length
  | [] => by simp [opnS]
  | k :: K => by
    have := opnS_len K
    have := opn_pos k
    show _ ≤ (opn k ++ opnS K).length ∧ (opn k ++ opnS K).length ≤ _
    rw [List.length_append, List.length_cons]; omega
theorem clo_len (k : Nat) : (clo k).length ≤ 1 := by unfold clo; split <;> simp
theorem cloS_len : ∀ K : List Nat, (cloS K).length ≤ K.length
  | [] => by simp [cloS]
  | k :: K => by
    have := cloS_len K
    have := clo_len k
    show (cloS K ++ clo k).length ≤ _
    rw [List.length_append, List.length_cons]; omega
theorem kinds_len (l : List Int) : (kindsOf l).length = l.length := by simp [kindsOf]
theorem kinds_five (l : List Int) : ∀ k ∈ kindsOf l, k < 5 := by
  intro k hk
  simp only [kindsOf, List.mem_map] at hk
  obtain ⟨x, _, rfl⟩ := hk
  omega
theorem kinds_step {l : List Int} {i : Nat} {r : Int} (h : l[i]? = some r) : kindsOf (l.take (i + 1)) = kindsOf (l.take i) ++ [(r % 5).toNat] := by
  rw [List.take_succ, h]; simp [kindsOf]
/-- one round of the law's loop -/
theorem law_step {l : List Int} {i : Int} {s b : List Int} {a : Int} (h : lawI l i s b a) {r : Int} {k : Nat} (hr : l[i.toNat]? = some r) (hk : r % 5 = (k : Int)) : lawI l (i + 1) (s ++ opn k) (clo k ++ b) (if i = 200 then (s.length : Int) else a) := by
  obtain ⟨h1, h2, h3, h4, h5, h6⟩ := h
  have hlt := (List.getElem?_eq_some_iff.1 hr).1
  have e : (i + 1).toNat = i.toNat + 1 := by omega
  have ek : (r % 5).toNat = k := by omega
  refine ⟨by omega, by omega, h3, ?_, ?_, ?_⟩
  · rw [e, kinds_step hr, ek, opnS_app, h4]
    show _ ++ opn k = _ ++ (opn k ++ []); rw [List.append_nil]
  · rw [e, kinds_step hr, ek, cloS_app, h5]; rfl
  · by_cases hi : i = 200
    · subst hi
      rw [if_pos rfl, if_pos (by omega), h4]; rfl
    · rw [if_neg hi, h6]
      by_cases h7 : 200 < i
      · rw [if_pos h7, if_pos (by omega)]
      · rw [if_neg h7, if_neg (by omega)]
theorem law_len {l : List Int} {i : Int} {s b : List Int} {a : Int} (h : lawI l i s b a) : s.length ≤ 500 ∧ b.length ≤ 250 := by
  obtain ⟨h1, h2, h3, h4, h5, h6⟩ := h
  have a1 := opnS_len (kindsOf (l.take i.toNat))
  have a2 := cloS_len (kindsOf (l.take i.toNat))
  rw [kinds_len, List.length_take] at a1 a2
  rw [h4, h5]; omega
theorem lit40 : ∀ σ, (GE.lit 1 40).eval σ = opn 0 := fun σ => by show (bytesOf 1 40).map (fun b => (b.toNat : Int)) = _; decide +kernel
theorem lit91 : ∀ σ, (GE.lit 1 91).eval σ = opn 1 := fun σ => by show (bytesOf 1 91).map (fun b => (b.toNat : Int)) = _; decide +kernel
theorem lit39 : ∀ σ, (GE.lit 1 39).eval σ = opn 2 := fun σ => by show (bytesOf 1 39).map (fun b => (b.toNat : Int)) = _; decide +kernel
theorem litSp : ∀ σ, (GE.lit 2 11328).eval σ = opn 3 := fun σ => by show (bytesOf 2 11328).map (fun b => (b.toNat : Int)) = _; decide +kernel
theorem litFn : ∀ σ, (GE.lit 2 8999).eval σ = opn 4 := fun σ => by show (bytesOf 2 8999).map (fun b => (b.toNat : Int)) = _; decide +kernel
theorem lit41 : ∀ σ, (GE.lit 1 41).eval σ = clo 0 := fun σ => by show (bytesOf 1 41).map (fun b => (b.toNat : Int)) = _; decide +kernel
theorem lit93 : ∀ σ, (GE.lit 1 93).eval σ = clo 1 := fun σ => by show (bytesOf 1 93).map (fun b => (b.toNat : Int)) = _; decide +kernel
theorem litN2 : ∀ σ, (GE.lit 0 0).eval σ = clo 2 := fun σ => by show (bytesOf 0 0).map (fun b => (b.toNat : Int)) = _; decide +kernel
end Go.Ev
