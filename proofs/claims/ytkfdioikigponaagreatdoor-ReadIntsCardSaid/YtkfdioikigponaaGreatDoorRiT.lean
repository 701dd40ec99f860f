import Derived.Test.YtkfdioikigponaaGreatDoorRiD
set_option maxRecDepth 100000
set_option linter.all false
namespace Go.Ev
/- read's token: the loop over an integer's text. -/
noncomputable section
def tI : SA := .mk false (.app 12 (.g (.s 0) (.i (.v 1) (.g (.s 3) .nil)))) (.c 1) true
def tM : SE := .bin 6 .i64 (.len (.s 0)) (.bin 7 .i64 (.c (-1)) (.v 1))
def tP : SE := .bin 0 .i64 (.v 1) (.c 0)
def tQ : SE := .bin 0 .i64 (.v 1) (.c 1)
def tC : SE := .rd (.s 0) tP
def tX : SE := .bin 0 .u8 (.bin 0 .i32 tC (.c 0)) (.c 0)
def tM' : SE := .bin 6 .i64 (.len (.s 0)) (.bin 7 .i64 (.c (-1)) tQ)
def tNo (n : Int) : SA := .mk false tC (.c n) false
def tA : List SA := [tI, .mk true tP (.len (.s 0)) true, .mk true tP (.c 0) false, .mk true tC (.c 0) false, tNo 40, tNo 41, tNo 91, tNo 93, tNo 34, tNo 39, tNo 96, tNo 44, tNo 59, tNo 9, tNo 10, tNo 12, tNo 13, tNo 32, tNo 92,
  .mk true (.c 127) (.bin 0 .u32 (.bin 0 .i32 tC (.c 0)) (.c 0)) false, .mk true (.c 60000) (.bin 6 .i64 (.len (.s 3)) (.c 1)) false,
  .mk false (.app 12 (.g (.s 0) (.i tQ (.g (.cat (.s 3) (.one tX)) .nil)))) (.c 1) true, .mk true tM' tM true, .mk true tM' (.c 0) false]
def tB : List SA := [tI, .mk true tP (.len (.s 0)) true, .mk true tP (.c 0) false, .mk true tC (.c 0) false, tNo 40, .mk false tC (.c 41) true]
def tE : List SA := [tI, .mk true tP (.len (.s 0)) false]
def tUs : List AV := [.ptr (K.of 256) 0, .top, .ptr (K.of 258) 0, .int .i64 0, .bool false, .ptr (K.of 259) 0, .top, .top, .top, .top, .top, .top, .top, .top, .top, .top, .top, .top, .top, .top, .top, .top, .top, .top, .top, .top, .top, .top, .top, .top, .top, .top, .top, .top, .top, .top, .top, .top, .top, .top, .top, .top, .top, .top, .top, .top, .top, .top, .top, .top, .top, .top, .top, .top, .top, .top, .top, .top, .top, .top, .top, .top, .top, .top, .top]
def tLi : List HO := [.mk 256 (.cells 65 false 0 0 [.ptr (K.of 261) 0, .ptr (K.of 262) 0, .gv (.sl (K.of 257) 1 (.len (.s 0)) []), .sym .i64 (.v 1) [], .int .i64 0]), .mk 257 (.gob (.gh 3 [.i64] (.len (.s 0)) (.s 0))), .mk 258 (.cells 31 false 0 0 [.int .i64 0, .int .i64 0]), .mk 259 (.cells 108 false 0 0 [.ptr (K.of 259) 0, .gv (.sl (K.of 260) 1 (.len (.s 3)) [])]), .mk 260 (.gob (.gh 5 [.u8] (.len (.s 3)) (.s 3)))]
def tN : SE := .app 8 (.g (.s 0) .nil)
def tR : GE := .cut (.s 0) (.c 0) tN
def tLo : List HO := [.mk 256 (.cells 65 false 0 0 [.ptr (K.of 261) 0, .ptr (K.of 262) 0, .gv (.sl (K.of 257) 1 (.len (.s 0)) []), .sym .i64 tN [], .int .i64 0]), .mk 257 (.gob (.gh 3 [.i64] (.len (.s 0)) (.s 0))), .mk 258 (.cells 31 false 0 0 [.int .i64 0, .int .i64 0]), .mk 259 (.cells 108 false 0 0 [.ptr (K.of 259) 0, .gv (.sl (K.of 263) 1 tN [])]), .mk 263 (.gob (.gh 5 [.u8] tN tR))]
def tLt : LT := .mk 53 7 tUs 263 tLi [tI] (some (tM, tM)) (.x 0 tUs) 264 tLo
def tE2 : EqL := .g (.s 3) tR (.i (.len (.s 3)) tN (.i (.v 1) tN .nil))
end
theorem mem_take {p : Int → Bool} : ∀ {l : List Int} {x : Int}, x ∈ l.takeWhile p → p x = true
  | [], _, h => by cases h
  | y :: l, x, h => by
    rw [List.takeWhile_cons] at h
    split at h
    · rename_i hy
      rcases List.mem_cons.1 h with rfl | h
      · exact hy
      · exact mem_take h
    · cases h
/- the row's parts -/
theorem dig_pre {s : List Int} {i : Nat} (h : i < endN s) : ∃ x, s[i]? = some x ∧ (isDigB x = true ∨ x = 43 ∨ x = 45) := by
  unfold endN at h
  have hlen : (digS s).length ≤ s.length - sgN s := by
    unfold digS
    exact Nat.le_trans (List.takeWhile_sublist _).length_le (by rw [List.length_drop]; exact Nat.le_refl _)
  by_cases hi : i < sgN s
  · have h1 : sgN s = 1 := by unfold sgN at hi ⊢; split at hi <;> first | omega | (split <;> first | rfl | contradiction)
    have h0 : i = 0 := by omega
    subst h0
    unfold sgN at h1
    split at h1
    · rename_i hs
      cases s with
      | nil => simp at hs
      | cons x l => exact ⟨x, rfl, .inr (by simpa using hs)⟩
    · omega
  · have hj : i - sgN s < (digS s).length := by omega
    have hm : (digS s)[i - sgN s] ∈ digS s := List.getElem_mem hj
    have hd : isDigB (digS s)[i - sgN s] = true := mem_take hm
    refine ⟨(digS s)[i - sgN s], ?_, .inl hd⟩
    have : digS s <+: s.drop (sgN s) := List.takeWhile_prefix _
    obtain ⟨t, ht⟩ := this
    have e : (s.drop (sgN s))[i - sgN s]? = some (digS s)[i - sgN s] := by
      rw [← ht, List.getElem?_append_left hj, List.getElem?_eq_getElem hj]
    rw [List.getElem?_drop] at e
    rw [← e]; congr 1; omega
theorem end_le (s : List Int) (h : intR s) : endN s ≤ s.length ∧ (endN s < s.length → s[endN s]? = some 41) := by
  rcases h.2 with e | e
  · have := congrArg List.length e
    rw [List.length_drop] at this
    have hlen : (digS s).length ≤ s.length - sgN s := by
      unfold digS
      exact Nat.le_trans (List.takeWhile_sublist _).length_le (by rw [List.length_drop]; exact Nat.le_refl _)
    have h1 := h.1.2.1
    have h2 : endN s = sgN s + (digS s).length := rfl
    have : s.length - endN s = 0 := by simpa using this
    exact ⟨by omega, by omega⟩
  · have hl := congrArg List.length e
    rw [List.length_drop] at hl
    have hl : s.length - endN s = 1 := by simpa using hl
    refine ⟨by omega, fun _ => ?_⟩
    have : (s.drop (endN s))[0]? = some 41 := by rw [e]; rfl
    rw [List.getElem?_drop] at this
    simpa using this
section
variable {σ : Nat → List Int}
open Classical in
theorem t_inv {e : SE} {g h : GE} : (SA.mk false (.app 12 (.g g (.i e (.g h .nil)))) (.c 1) true).holds σ ↔ tInv (g.eval σ) (e.eval σ) (h.eval σ) := by
  show decide (phiI 12 [g.eval σ, [e.eval σ], h.eval σ] = 1) = true ↔ _
  rw [decide_eq_true_iff]
  exact ite1
theorem getD_of {l : List Int} {i : Nat} {x : Int} (h : l[i]? = some x) : l.getD i 0 = x := by simp [List.getD, h]
end
section
variable [Gv]
theorem t_one (hL : LtFact tLt) (h : tInv (Gv.σ 0) ((Gv.σ 1).headD 0) (Gv.σ 3)) : LFactT 53 7 tUs 263 tLi (.x 0 tUs) 264 tLo := by
  have hl : ∀ t ∈ [tLt], LtFact t := by intro t ht; rw [List.mem_singleton] at ht; subst ht; exact hL
  have hinv := h
  obtain ⟨h1, h2, h3, h4, h5⟩ := h
  obtain ⟨e1, e2⟩ := end_le _ h1
  have hP : tP.eval Gv.σ = (Gv.σ 1).headD 0 := by
    show IntKind.i64.wrap ((Gv.σ 1).headD 0 + 0) = _
    rw [Int.add_zero, wrap64 (by omega)]
  have hQ : tQ.eval Gv.σ = (Gv.σ 1).headD 0 + 1 := by
    show IntKind.i64.wrap ((Gv.σ 1).headD 0 + 1) = _
    rw [wrap64 (by omega)]
  have hC : ∀ x, (Gv.σ 0)[((Gv.σ 1).headD 0).toNat]? = some x → tC.eval Gv.σ = x := by
    intro x hx
    show (Gv.σ 0).getD (tP.eval Gv.σ).toNat 0 = x
    rw [hP]; exact getD_of hx
  have hlen : ((Gv.σ 3).length : Int) = (Gv.σ 1).headD 0 := by rw [h5, List.length_take]; omega
  have hN : tN.eval Gv.σ = (endN (Gv.σ 0) : Int) := rfl
  by_cases hp : (Gv.σ 1).headD 0 < (endN (Gv.σ 0) : Int)
  · obtain ⟨x, hx, hx2⟩ := dig_pre (s := Gv.σ 0) (i := ((Gv.σ 1).headD 0).toNat) (by omega)
    have hc := hC x hx
    have hxr : (48 ≤ x ∧ x ≤ 57) ∨ x = 43 ∨ x = 45 := by
      rcases hx2 with h | h
      · left; simpa [isDigB] using h
      · exact .inr h
    have h32 : (SE.bin 0 .i32 tC (.c 0)).eval Gv.σ = x := by
      show IntKind.i32.wrap (tC.eval Gv.σ + 0) = x
      rw [hc, Int.add_zero, wrap32 (by omega)]
    have hX : tX.eval Gv.σ = x := by
      show IntKind.u8.wrap ((SE.bin 0 .i32 tC (.c 0)).eval Gv.σ + 0) = x
      rw [h32, Int.add_zero, wrapU8 (by omega)]
    have hno : ∀ n : Int, x ≠ n → (tNo n).holds Gv.σ := fun n hn => holdsN (by rw [hc]; exact hn)
    refine lt_of_run (n := 2000) (A := tA) (T := [(265, 263)]) (E := .nil) noHook_ok (lpT_ok [tLt] hl) ?_ trivial rfl rfl (by kernel_rfl)
    unfold tA
    simp only [sall_cons]
    refine ⟨t_inv.2 hinv, holdsT ?_, holdsF ?_, holdsF ?_, hno _ (by omega), hno _ (by omega), hno _ (by omega), hno _ (by omega), hno _ (by omega), hno _ (by omega), hno _ (by omega), hno _ (by omega), hno _ (by omega), hno _ (by omega), hno _ (by omega), hno _ (by omega), hno _ (by omega), hno _ (by omega), hno _ (by omega), holdsF ?_, holdsF ?_, t_inv.2 ?_, holdsT ?_, holdsF ?_, SAll.nil⟩
    · rw [hP]; simp only [SE.eval, GE.eval]; omega
    · rw [hP]; simp only [SE.eval]; omega
    · rw [hc]; simp only [SE.eval]; omega
    · show ¬ 127 < IntKind.u32.wrap ((SE.bin 0 .i32 tC (.c 0)).eval Gv.σ + 0)
      rw [h32, Int.add_zero, wrapU32 (by omega)]; omega
    · simp only [SE.eval, binE, GE.eval]; omega
    · rw [hQ]
      show tInv (Gv.σ 0) _ (Gv.σ 3 ++ [tX.eval Gv.σ])
      rw [hX]
      refine ⟨h1, h2, by omega, by omega, ?_⟩
      rw [h5, show ((Gv.σ 1).headD 0 + 1).toNat = ((Gv.σ 1).headD 0).toNat + 1 by omega, List.take_succ, hx]
      rfl
    · simp only [tM, tM', SE.eval, binE, GE.eval] at hQ ⊢; rw [show (SE.eval Gv.σ tQ) = _ from hQ]; omega
    · simp only [tM', SE.eval, binE, GE.eval] at hQ ⊢; rw [show (SE.eval Gv.σ tQ) = _ from hQ]; omega
  · have hpe : (Gv.σ 1).headD 0 = (endN (Gv.σ 0) : Int) := by omega
    have hE : tE2.all Gv.σ := by
      refine ⟨?_, ?_, ?_, trivial⟩
      · show Gv.σ 3 = ((Gv.σ 0).take (tN.eval Gv.σ).toNat).drop (0 : Int).toNat
        rw [hN, h5, hpe]; rfl
      · show ((Gv.σ 3).length : Int) = tN.eval Gv.σ
        rw [hN]; omega
      · show (Gv.σ 1).headD 0 = tN.eval Gv.σ
        rw [hN]; exact hpe
    by_cases hlast : endN (Gv.σ 0) < (Gv.σ 0).length
    · have hc := hC 41 (by rw [hpe]; exact e2 hlast)
      refine lt_of_run (n := 2000) (A := tB) (T := [(260, 263)]) (E := tE2) noHook_ok (lpT_ok [tLt] hl) ?_ hE rfl rfl (by kernel_rfl)
      unfold tB
      simp only [sall_cons]
      refine ⟨t_inv.2 hinv, holdsT ?_, holdsF ?_, holdsF ?_, holdsN ?_, holdsE ?_, SAll.nil⟩
      · rw [hP]; simp only [SE.eval, GE.eval]; omega
      · rw [hP]; simp only [SE.eval]; omega
      · rw [hc]; simp only [SE.eval]; omega
      · rw [hc]; simp only [SE.eval]; omega
      · rw [hc]; rfl
    · refine lt_of_run (n := 2000) (A := tE) (T := [(260, 263)]) (E := tE2) noHook_ok (lpT_ok [tLt] hl) ?_ hE rfl rfl (by kernel_rfl)
      unfold tE
      simp only [sall_cons]
      refine ⟨t_inv.2 hinv, holdsF ?_, SAll.nil⟩
      rw [hP]; simp only [SE.eval, GE.eval]; omega
end
theorem t_all : ∀ (B : Nat) (σ : Nat → List Int), tInv (σ 0) ((σ 1).headD 0) (σ 3) → tM.eval σ < (B : Int) → @LFactT ⟨σ⟩ 53 7 tUs 263 tLi (.x 0 tUs) 264 tLo
  | 0, σ, h, hb => by
    obtain ⟨h1, h2, h3, h4, h5⟩ := h
    have := (end_le _ h1).1
    simp only [tM, SE.eval, binE, GE.eval] at hb
    omega
  | B + 1, σ, h, hb => by
    refine @t_one ⟨σ⟩ ?_ h
    intro σ' _ hA hbd
    refine t_all B σ' (t_inv.1 (hA _ (List.mem_singleton.2 rfl))) ?_
    have hbd : 0 ≤ tM.eval σ' ∧ tM.eval σ' < tM.eval σ := hbd
    omega
noncomputable section
def tLtU : LT := .mk 53 7 tUs 263 tLi [tI] none (.x 0 tUs) 264 tLo
end
theorem tU_ok [Gv] : LtFact tLtU := fun σ _ hA _ => t_all ((tM.eval σ).toNat + 1) σ (t_inv.1 (hA _ (List.mem_singleton.2 rfl))) (by omega)
end Go.Ev
