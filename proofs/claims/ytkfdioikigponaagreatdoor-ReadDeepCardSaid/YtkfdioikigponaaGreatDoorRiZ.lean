import Derived.Test.YtkfdioikigponaaGreatDoorRiR
set_option maxRecDepth 100000
set_option linter.all false
namespace Go.Ev
/- read's number, runes.List, read.Read at an integer's text. -/
section
variable {σ : Nat → List Int}
open Classical in
open Classical in
end
theorem getD0 (l : List Int) : l.getD 0 0 = l.headD 0 := by cases l <;> rfl
theorem most_le (s : List Int) : 2305843009213693951 ≤ mostI s ∧ mostI s ≤ 2305843009213693952 := by unfold mostI; split <;> omega
theorem num_base {σ : Nat → List Int} (hA : tokR (σ 0)) {sg : Bool} (hs : neg (σ 0) = sg) (r : Bool) (hr : (SA.mk false (.app 9 (.g trR (.i (.c 0) (.i (.c 0) (.i (.c (bif sg then 2305843009213693952 else 2305843009213693951)) .nil))))) (.c 1) r).holds σ) : SAll σ (nmA sg 0 r) := by
  obtain ⟨p1, p2, p3, p4, p5, p6⟩ := tok_parts hA
  have e1 : trR.eval σ = digS (σ 0) := rfl
  unfold nmA
  simp only [sall_cons]
  refine ⟨q13.2 hA, lit00 (by rw [e1]; exact p2), holdsF ?_, holdsT ?_, ?_, hr, SAll.nil⟩
  · show ¬ 1 < IntKind.i64.wrap (((σ 0).length : Int) - ((trR.eval σ).length : Int))
    rw [e1, wrap64 (by omega)]; omega
  · show (0 : Int) < ((σ 0).length : Int); omega
  · cases sg with
    | true => exact holdsE (by show (σ 0).getD 0 0 = 45; rw [getD0]; exact of_decide_eq_true hs)
    | false => exact holdsN (by show ¬ (σ 0).getD 0 0 = 45; rw [getD0]; exact of_decide_eq_false hs)
theorem most_sg {s : List Int} {sg : Bool} (hs : neg s = sg) : mostI s = bif sg then 2305843009213693952 else 2305843009213693951 := by unfold mostI; rw [hs]; cases sg <;> rfl
theorem fit_dig {s : List Int} (hA : tokR s) (h : fitR s) : fitD (digS s) 0 0 (mostI s) :=
  ⟨hA.1, by omega, by omega, rfl, h, (most_le s).2⟩
theorem num_ok [Gv] : TmFact numT := by
  intro σ _ hA _
  have h1 : tokR (σ 0) := (q13 (g := .s 0)).1 (hA _ (by simp))
  have h2 : fitR (σ 0) := (q3 (g := .s 0)).1 (hA _ (by simp))
  have hpos := (decV_part h1.1.1 (digS (σ 0)).length).1
  rw [List.take_length] at hpos
  have hm := most_le (σ 0)
  have h2' : decV (digS (σ 0)) 0 ≤ mostI (σ 0) := h2
  have hV : nmV.eval σ = decV (digS (σ 0)) 0 := by
    show IntKind.i64.wrap (decV (digS (σ 0)) 0 + 0) = _
    rw [Int.add_zero, wrap64 (by omega)]
  have hH : @HookOk ⟨σ⟩ (hooksTM [trT]) := @hooksTM_ok ⟨σ⟩ _ (one_mem (@tr_ok ⟨σ⟩))
  have hP : @LpOk ⟨σ⟩ (lpT [nLtU, oLtU]) := @lpT_ok ⟨σ⟩ _ (two_mem (@nU_ok ⟨σ⟩) (@oU_ok ⟨σ⟩))
  have hf := fit_dig h1 h2
  cases hs : neg (σ 0) with
  | false =>
    refine @tm_of_run ⟨σ⟩ _ hH _ hP 2000 _ _ _ _ (nmA false 0 true) _ _ _ [] (.i nmV (.app 6 (.g (.s 0) .nil)) .nil) (num_base h1 hs true (n_inv.2 ?_)) ⟨?_, trivial⟩ rfl rfl (by kernel_rfl)
    · rw [most_sg hs] at hf; exact hf
    · show nmV.eval σ = valI (σ 0)
      rw [hV]; unfold valI; rw [hs]; rfl
  | true =>
    refine @tm_of_run ⟨σ⟩ _ hH _ hP 2000 _ _ _ _ (nmA true 0 true) _ _ _ [] (.i (.bin 1 .i64 (.c 0) nmV) (.app 6 (.g (.s 0) .nil)) .nil) (num_base h1 hs true (n_inv.2 ?_)) ⟨?_, trivial⟩ rfl rfl (by kernel_rfl)
    · rw [most_sg hs] at hf; exact hf
    · show IntKind.i64.wrap (0 - nmV.eval σ) = valI (σ 0)
      rw [hV, wrap64 (by omega)]; unfold valI; rw [hs]
      show 0 - decV (digS (σ 0)) 0 = -decV (digS (σ 0)) 0
      omega
theorem vT_ok [Gv] (hV : ∀ G : Gv, @VsOk G 74) : TmFact vT := fun σ _ hA _ => @vs_tm ⟨σ⟩ _ (hV ⟨σ⟩) ((q1 (g := .s 0)).1 (hA _ (List.mem_singleton.2 rfl)))
theorem ls_ok [Gv] (hV : ∀ G : Gv, @VsOk G 74) : TmFact lsT := by
  intro σ _ hA _
  have h1 : ascR (σ 0) := (q1 (g := .s 0)).1 (hA _ (by simp))
  have h2 : (0 : Int) < ((σ 0).length : Int) := by
    have : (SA.mk true (.c 0) (.len (.s 0)) true).holds σ := hA _ (by simp)
    exact of_decide_eq_true this
  have hH : @HookOk ⟨σ⟩ (hooksTM [vT]) := @hooksTM_ok ⟨σ⟩ _ (one_mem (@vT_ok ⟨σ⟩ hV))
  have hP : @LpOk ⟨σ⟩ (lpT [lLtU]) := @lpT_ok ⟨σ⟩ _ (one_mem (@lU_ok ⟨σ⟩))
  obtain ⟨b1, b2, b3⟩ := dec_bounds (σ 0) 0 (by omega)
  have hd := decAll_asc h1.1 (σ 0).length 0 (by omega)
  rw [decAll_step (by omega), List.drop_zero] at hd
  have hX : qX0.eval σ = ((Utf8.decode (bytesI (σ 0)) 0).1 : Int) := by
    show IntKind.i64.wrap (((Utf8.decode (bytesI (σ 0)) 0).1 : Int) + 0) = _
    rw [Int.add_zero, wrap64 (by omega)]
  have hL : qL0.eval σ = decAll (σ 0) (0 + (Utf8.decode (bytesI (σ 0)) 0).2) := by
    rw [Nat.zero_add]
    show decAll (σ 0) (((Utf8.decode (bytesI (σ 0)) 0).2 : Int)).toNat = _
    rw [Int.toNat_natCast]
  refine @tm_of_run ⟨σ⟩ _ hH _ hP 2000 _ _ _ _ lsA _ _ _ [(259, 256)] lsE ?_ ⟨?_, ?_, trivial⟩ rfl rfl (by kernel_rfl)
  · unfold lsA
    simp only [sall_cons]
    refine ⟨q1.2 h1, holdsT h2, l_inv.2 ?_, SAll.nil⟩
    show lInv (σ 0) ((Utf8.decode (bytesI (σ 0)) 0).2 : Int) [qX0.eval σ]
    exact ⟨by omega, by omega, by rw [List.length_singleton]; omega, h1.2⟩
  · show [qX0.eval σ] ++ qL0.eval σ = σ 0
    rw [hX, hL]; exact hd
  · show (1 : Int) + ((qL0.eval σ).length : Int) = ((σ 0).length : Int)
    rw [hL]
    have := congrArg List.length hd
    rw [List.length_cons] at this
    omega
/- the token of an integer's text -/
end Go.Ev
