import Derived.Test.YtkfdioikigponaaGreatDoorRiR
set_option maxRecDepth 100000
set_option linter.all false
namespace Go.Ev
/- read's number, runes.List, read.Read at an integer's text. -/
section
variable {σ : Nat → List Int}
open Classical in
theorem n_invN {g : GE} {a b c : SE} (h : ¬ fitD (g.eval σ) (a.eval σ) (b.eval σ) (c.eval σ)) : (SA.mk false (.app 9 (.g g (.i a (.i b (.i c .nil))))) (.c 1) false).holds σ := by
  refine holdsN ?_
  show ¬ (if fitD (g.eval σ) (a.eval σ) (b.eval σ) (c.eval σ) then (1 : Int) else 0) = 1
  exact fun e => h (ite1.1 e)
open Classical in
theorem q3N {g : GE} (h : ¬ fitR (g.eval σ)) : (SA.mk false (.app 3 (.g g .nil)) (.c 1) false).holds σ := by
  refine holdsN ?_
  show ¬ (if fitR (g.eval σ) then (1 : Int) else 0) = 1
  exact fun e => h (ite1.1 e)
end
theorem getD0 (l : List Int) : l.getD 0 0 = l.headD 0 := by cases l <;> rfl
theorem most_le (s : List Int) : 2305843009213693951 ≤ mostI s ∧ mostI s ≤ 2305843009213693952 := by unfold mostI; split <;> omega
theorem num_base {σ : Nat → List Int} (hA : tokR (σ 0)) {sg : Bool} (hs : neg (σ 0) = sg) (r : Bool) (hr : (SA.mk false (.app 9 (.g trR (.i (.c 0) (.i (.c 0) (.i (.c (bif sg then 2305843009213693952 else 2305843009213693951)) .nil))))) (.c 1) r).holds σ) : SAll σ (nmA sg 0 r) := by
  obtain ⟨p1, p2, p3, p4, p5, p6⟩ := tok_parts hA
  have e1 : trR.eval σ = digS (σ 0) := rfl
  unfold nmA
  simp only [sall_cons]
  refine ⟨q13.2 hA, lit00 (by rw [e1]; exact p2), holdsF ?_, holdsT ?_, ?_, hr, SAll.nil⟩
  · show ¬ 1 < IntKind.i64.wrap (((σ 0).length : Int) - ((trR.eval σ).length : Int))
    rw [e1, wrap64 (by omega)]; omega
  · show (0 : Int) < ((σ 0).length : Int); omega
  · cases sg with
    | true => exact holdsE (by show (σ 0).getD 0 0 = 45; rw [getD0]; exact of_decide_eq_true hs)
    | false => exact holdsN (by show ¬ (σ 0).getD 0 0 = 45; rw [getD0]; exact of_decide_eq_false hs)
theorem most_sg {s : List Int} {sg : Bool} (hs : neg s = sg) : mostI s = bif sg then 2305843009213693952 else 2305843009213693951 := by unfold mostI; rw [hs]; cases sg <;> rfl
theorem fit_dig {s : List Int} (hA : tokR s) (h : fitR s) : fitD (digS s) 0 0 (mostI s) :=
  ⟨hA.1, by omega, by omega, rfl, h, (most_le s).2⟩
theorem over_dig {s : List Int} (hA : tokR s) (h : overR s) : overD (digS s) 0 0 (mostI s) := by
  obtain ⟨p1, p2, p3, p4, p5, p6⟩ := tok_parts hA
  exact ⟨hA.1, by omega, by omega, rfl, (most_le s).1, (most_le s).2, h.1, h.2⟩
theorem num_ok [Gv] : TmFact numT := by
  intro σ _ hA _
  have h1 : tokR (σ 0) := (q13 (g := .s 0)).1 (hA _ (by simp))
  have h2 : fitR (σ 0) := (q3 (g := .s 0)).1 (hA _ (by simp))
  have hpos := (decV_part h1.1.1 (digS (σ 0)).length).1
  rw [List.take_length] at hpos
  have hm := most_le (σ 0)
  have h2' : decV (digS (σ 0)) 0 ≤ mostI (σ 0) := h2
  have hV : nmV.eval σ = decV (digS (σ 0)) 0 := by
    show IntKind.i64.wrap (decV (digS (σ 0)) 0 + 0) = _
    rw [Int.add_zero, wrap64 (by omega)]
  have hH : @HookOk ⟨σ⟩ (hooksTM [trT]) := @hooksTM_ok ⟨σ⟩ _ (one_mem (@tr_ok ⟨σ⟩))
  have hP : @LpOk ⟨σ⟩ (lpT [nLtU, oLtU]) := @lpT_ok ⟨σ⟩ _ (two_mem (@nU_ok ⟨σ⟩) (@oU_ok ⟨σ⟩))
  have hf := fit_dig h1 h2
  cases hs : neg (σ 0) with
  | false =>
    refine @tm_of_run ⟨σ⟩ _ hH _ hP 2000 _ _ _ _ (nmA false 0 true) _ _ _ [] (.i nmV (.app 6 (.g (.s 0) .nil)) .nil) (num_base h1 hs true (n_inv.2 ?_)) ⟨?_, trivial⟩ rfl rfl (by kernel_rfl)
    · rw [most_sg hs] at hf; exact hf
    · show nmV.eval σ = valI (σ 0)
      rw [hV]; unfold valI; rw [hs]; rfl
  | true =>
    refine @tm_of_run ⟨σ⟩ _ hH _ hP 2000 _ _ _ _ (nmA true 0 true) _ _ _ [] (.i (.bin 1 .i64 (.c 0) nmV) (.app 6 (.g (.s 0) .nil)) .nil) (num_base h1 hs true (n_inv.2 ?_)) ⟨?_, trivial⟩ rfl rfl (by kernel_rfl)
    · rw [most_sg hs] at hf; exact hf
    · show IntKind.i64.wrap (0 - nmV.eval σ) = valI (σ 0)
      rw [hV, wrap64 (by omega)]; unfold valI; rw [hs]
      show 0 - decV (digS (σ 0)) 0 = -decV (digS (σ 0)) 0
      omega
theorem numO_ok [Gv] : TmFact numO := by
  intro σ _ hA _
  have h1 : tokR (σ 0) := (q13 (g := .s 0)).1 (hA _ (by simp))
  have h2 : overR (σ 0) := (q4 (g := .s 0)).1 (hA _ (by simp))
  have hH : @HookOk ⟨σ⟩ (hooksTM [trT]) := @hooksTM_ok ⟨σ⟩ _ (one_mem (@tr_ok ⟨σ⟩))
  have hP : @LpOk ⟨σ⟩ (lpT [nLtU, oLtU]) := @lpT_ok ⟨σ⟩ _ (two_mem (@nU_ok ⟨σ⟩) (@oU_ok ⟨σ⟩))
  have hf := over_dig h1 h2
  have happ : ∀ {A B : List SA}, SAll σ A → SAll σ B → SAll σ (A ++ B) := fun hA hB x hx => (List.mem_append.1 hx).elim (hA x) (hB x)
  have hno : ¬ fitD (digS (σ 0)) 0 0 (mostI (σ 0)) := fun h => by have := h.2.2.2.2.1; have := h2.1; omega
  cases hs : neg (σ 0) with
  | false =>
    rw [most_sg hs] at hf hno
    exact @tm_of_run ⟨σ⟩ _ hH _ hP 2000 _ _ _ _ (nmA false 0 false ++ nmO false) _ _ _ [] .nil (happ (num_base h1 hs false (n_invN hno)) (by unfold nmO; simp only [sall_cons]; exact ⟨o_inv.2 hf, SAll.nil⟩)) trivial rfl rfl (by kernel_rfl)
  | true =>
    rw [most_sg hs] at hf hno
    exact @tm_of_run ⟨σ⟩ _ hH _ hP 2000 _ _ _ _ (nmA true 0 false ++ nmO true) _ _ _ [] .nil (happ (num_base h1 hs false (n_invN hno)) (by unfold nmO; simp only [sall_cons]; exact ⟨o_inv.2 hf, SAll.nil⟩)) trivial rfl rfl (by kernel_rfl)
theorem vT_ok [Gv] (hV : ∀ G : Gv, @VsOk G 74) : TmFact vT := fun σ _ hA _ => @vs_tm ⟨σ⟩ _ (hV ⟨σ⟩) ((q1 (g := .s 0)).1 (hA _ (List.mem_singleton.2 rfl)))
theorem ls_ok [Gv] (hV : ∀ G : Gv, @VsOk G 74) : TmFact lsT := by
  intro σ _ hA _
  have h1 : ascR (σ 0) := (q1 (g := .s 0)).1 (hA _ (by simp))
  have h2 : (0 : Int) < ((σ 0).length : Int) := by
    have : (SA.mk true (.c 0) (.len (.s 0)) true).holds σ := hA _ (by simp)
    exact of_decide_eq_true this
  have hH : @HookOk ⟨σ⟩ (hooksTM [vT]) := @hooksTM_ok ⟨σ⟩ _ (one_mem (@vT_ok ⟨σ⟩ hV))
  have hP : @LpOk ⟨σ⟩ (lpT [lLtU]) := @lpT_ok ⟨σ⟩ _ (one_mem (@lU_ok ⟨σ⟩))
  obtain ⟨b1, b2, b3⟩ := dec_bounds (σ 0) 0 (by omega)
  have hd := decAll_asc h1.1 (σ 0).length 0 (by omega)
  rw [decAll_step (by omega), List.drop_zero] at hd
  have hX : qX0.eval σ = ((Utf8.decode (bytesI (σ 0)) 0).1 : Int) := by
    show IntKind.i64.wrap (((Utf8.decode (bytesI (σ 0)) 0).1 : Int) + 0) = _
    rw [Int.add_zero, wrap64 (by omega)]
  have hL : qL0.eval σ = decAll (σ 0) (0 + (Utf8.decode (bytesI (σ 0)) 0).2) := by
    rw [Nat.zero_add]
    show decAll (σ 0) (((Utf8.decode (bytesI (σ 0)) 0).2 : Int)).toNat = _
    rw [Int.toNat_natCast]
  refine @tm_of_run ⟨σ⟩ _ hH _ hP 2000 _ _ _ _ lsA _ _ _ [(259, 256)] lsE ?_ ⟨?_, ?_, trivial⟩ rfl rfl (by kernel_rfl)
  · unfold lsA
    simp only [sall_cons]
    refine ⟨q1.2 h1, holdsT h2, l_inv.2 ?_, SAll.nil⟩
    show lInv (σ 0) ((Utf8.decode (bytesI (σ 0)) 0).2 : Int) [qX0.eval σ]
    exact ⟨by omega, by omega, by rw [List.length_singleton]; omega, h1.2⟩
  · show [qX0.eval σ] ++ qL0.eval σ = σ 0
    rw [hX, hL]; exact hd
  · show (1 : Int) + ((qL0.eval σ).length : Int) = ((σ 0).length : Int)
    rw [hL]
    have := congrArg List.length hd
    rw [List.length_cons] at this
    omega
/- the token of an integer's text -/
theorem tok_take {s : List Int} (h : intR s) : tokR (s.take (endN s)) ∧ digS (s.take (endN s)) = digS s ∧ neg (s.take (endN s)) = neg s := by
  have hd := drop_dig s
  have hle := (end_le s h).1
  have h1 := h.1.2.1
  have hend : endN s = sgN s + (digS s).length := rfl
  have hhead : (s.take (endN s)).headD 0 = s.headD 0 := by
    cases s with
    | nil => rfl
    | cons x l =>
      obtain ⟨k, hk⟩ : ∃ k, endN (x :: l) = k + 1 := ⟨endN (x :: l) - 1, by omega⟩
      rw [hk]; rfl
  have hsg : sgN (s.take (endN s)) = sgN s := by unfold sgN; rw [hhead]
  have hdrop : (s.take (endN s)).drop (sgN s) = digS s := by
    rw [List.drop_take, hd, show endN s - sgN s = (digS s).length by omega, List.take_left]
  have hdig : digS (s.take (endN s)) = digS s := by
    show ((s.take (endN s)).drop (sgN (s.take (endN s)))).takeWhile isDigB = digS s
    rw [hsg, hdrop]
    have := take_dig (digS s) [] h.1.1 (.inl rfl)
    rw [List.append_nil] at this
    exact this
  have hen : endN (s.take (endN s)) = endN s := by
    show sgN (s.take (endN s)) + (digS (s.take (endN s))).length = _
    rw [hsg, hdig]; rfl
  refine ⟨⟨by rw [hdig]; exact h.1, ?_⟩, hdig, by unfold neg; rw [hhead]⟩
  rw [hen]
  exact List.drop_eq_nil_of_le (by rw [List.length_take]; omega)
theorem rd_base {σ : Nat → List Int} (h1 : ascR (σ 0)) (h2 : intR (σ 0)) : SAll σ rdA := by
  have he := end_le _ h2
  have hend : endN (σ 0) = sgN (σ 0) + (digS (σ 0)).length := rfl
  have hp := h2.1.2.1
  obtain ⟨x, hx, hx2⟩ := dig_pre (s := σ 0) (i := 0) (by omega)
  have hxr : (48 ≤ x ∧ x ≤ 57) ∨ x = 43 ∨ x = 45 := by
    rcases hx2 with h | h
    · left; simpa [isDigB] using h
    · exact .inr h
  have hc : qC0.eval σ = x := getD_of hx
  have h32 : (SE.bin 0 .i32 qC0 (.c 0)).eval σ = x := by
    show IntKind.i32.wrap (qC0.eval σ + 0) = x
    rw [hc, Int.add_zero, wrap32 (by omega)]
  have hno : ∀ n : Int, x ≠ n → (qNo n).holds σ := fun n hn => holdsN (by rw [hc]; exact hn)
  have hN : rdN.eval σ = (endN (σ 0) : Int) := rfl
  have hl := h1.2
  unfold rdA
  simp only [sall_cons]
  refine ⟨q1.2 h1, holdsT ?_, holdsF ?_, hno _ (by omega), hno _ (by omega), hno _ (by omega), hno _ (by omega), hno _ (by omega), hno _ (by omega), holdsN ?_, holdsF ?_, hno _ (by omega), hno _ (by omega), hno _ (by omega), hno _ (by omega), hno _ (by omega), hno _ (by omega), hno _ (by omega), hno _ (by omega), hno _ (by omega), hno _ (by omega), hno _ (by omega), holdsF ?_, t_inv.2 ?_, holdsT ?_, holdsF ?_, q13.2 ?_, SAll.nil⟩
  · show (0 : Int) < ((σ 0).length : Int); omega
  · show ¬ ((σ 0).length : Int) < 0; omega
  · show ¬ (0 : Int) = ((σ 0).length : Int); omega
  · rw [hc]; show ¬ x < 0; omega
  · show ¬ 127 < IntKind.u32.wrap ((SE.bin 0 .i32 qC0 (.c 0)).eval σ + 0)
    rw [h32, Int.add_zero, wrapU32 (by omega)]; omega
  · show tInv (σ 0) 1 [IntKind.u8.wrap ((SE.bin 0 .i32 qC0 (.c 0)).eval σ + 0)]
    rw [h32, Int.add_zero, wrapU8 (by omega)]
    refine ⟨h2, h1.2, by omega, by omega, ?_⟩
    show [x] = (σ 0).take 1
    cases hs : σ 0 with
    | nil => rw [hs] at hx; cases hx
    | cons y l => rw [hs] at hx; injection hx with hx; rw [hx]; rfl
  · rw [hN]; show (0 : Int) < _; omega
  · rw [hN]; show ¬ (60000 : Int) < _; omega
  · have hG : rdG.eval σ = (σ 0).take (endN (σ 0)) := by
      show ((σ 0).take (rdN.eval σ).toNat).drop (0 : Int).toNat = _
      rw [hN, Int.toNat_natCast]; rfl
    rw [hG]; exact (tok_take h2).1
theorem rdG_eval {σ : Nat → List Int} : rdG.eval σ = (σ 0).take (endN (σ 0)) := by
  show ((σ 0).take ((endN (σ 0) : Int)).toNat).drop (0 : Int).toNat = _
  rw [Int.toNat_natCast]; rfl
theorem fit_take {s : List Int} (h : intR s) : (fitR (s.take (endN s)) ↔ fitR s) ∧ (overR (s.take (endN s)) ↔ overR s) ∧ valI (s.take (endN s)) = valI s := by
  obtain ⟨t1, t2, t3⟩ := tok_take h
  have hm : mostI (s.take (endN s)) = mostI s := by unfold mostI; rw [t3]
  refine ⟨?_, ?_, ?_⟩
  · unfold fitR; rw [t2, hm]
  · unfold overR; rw [t2, hm]
  · unfold valI; rw [t2, t3]
theorem rd_ok [Gv] (hV : ∀ G : Gv, @VsOk G 74) : TmFact rdF := by
  intro σ _ hA _
  have h1 : ascR (σ 0) := (q1 (g := .s 0)).1 (hA _ (by simp))
  have h2 : intR (σ 0) := (q2 (g := .s 0)).1 (hA _ (by simp))
  have h3 : fitR (σ 0) := (q3 (g := .s 0)).1 (hA _ (by simp))
  have hH : @HookOk ⟨σ⟩ (hooksTM [lsT, numT, numO]) := @hooksTM_ok ⟨σ⟩ _ (by
    intro t ht
    rcases List.mem_cons.1 ht with rfl | ht
    · exact @ls_ok ⟨σ⟩ hV
    · exact two_mem (@num_ok ⟨σ⟩) (@numO_ok ⟨σ⟩) t ht)
  have hP : @LpOk ⟨σ⟩ (lpT [tLtU]) := @lpT_ok ⟨σ⟩ _ (one_mem (@tU_ok ⟨σ⟩))
  have happ : ∀ {A B : List SA}, SAll σ A → SAll σ B → SAll σ (A ++ B) := fun hA hB x hx => (List.mem_append.1 hx).elim (hA x) (hB x)
  obtain ⟨f1, f2, f3⟩ := fit_take h2
  refine @tm_of_run ⟨σ⟩ _ hH _ hP 2000 _ _ _ _ (rdA ++ [qA1 3 rdG]) _ _ _ [] (.i (.app 6 (.g rdG .nil)) (.app 6 (.g (.s 0) .nil)) .nil) (happ (rd_base h1 h2) ?_) ⟨?_, trivial⟩ rfl rfl (by kernel_rfl)
  · simp only [sall_cons]
    exact ⟨q3.2 (by rw [rdG_eval]; exact f1.2 h3), SAll.nil⟩
  · show valI (rdG.eval σ) = valI (σ 0)
    rw [rdG_eval]; exact f3
theorem rdO_ok [Gv] (hV : ∀ G : Gv, @VsOk G 74) : TmFact rdO := by
  intro σ _ hA _
  have h1 : ascR (σ 0) := (q1 (g := .s 0)).1 (hA _ (by simp))
  have h2 : intR (σ 0) := (q2 (g := .s 0)).1 (hA _ (by simp))
  have h3 : overR (σ 0) := (q4 (g := .s 0)).1 (hA _ (by simp))
  have hH : @HookOk ⟨σ⟩ (hooksTM [lsT, numT, numO]) := @hooksTM_ok ⟨σ⟩ _ (by
    intro t ht
    rcases List.mem_cons.1 ht with rfl | ht
    · exact @ls_ok ⟨σ⟩ hV
    · exact two_mem (@num_ok ⟨σ⟩) (@numO_ok ⟨σ⟩) t ht)
  have hP : @LpOk ⟨σ⟩ (lpT [tLtU]) := @lpT_ok ⟨σ⟩ _ (one_mem (@tU_ok ⟨σ⟩))
  have happ : ∀ {A B : List SA}, SAll σ A → SAll σ B → SAll σ (A ++ B) := fun hA hB x hx => (List.mem_append.1 hx).elim (hA x) (hB x)
  obtain ⟨f1, f2, f3⟩ := fit_take h2
  have hno : ¬ fitR (σ 0) := fun h => by have h : decV (digS (σ 0)) 0 ≤ mostI (σ 0) := h; have := h3.1; omega
  refine @tm_of_run ⟨σ⟩ _ hH _ hP 2000 _ _ _ _ (rdA ++ [.mk false (.app 3 (.g rdG .nil)) (.c 1) false, qA1 4 rdG]) _ _ _ [] .nil (happ (rd_base h1 h2) ?_) trivial rfl rfl (by kernel_rfl)
  simp only [sall_cons]
  exact ⟨q3N (by rw [rdG_eval]; exact fun h => hno (f1.1 h)), q4.2 (by rw [rdG_eval]; exact f2.2 h3), SAll.nil⟩
end Go.Ev
