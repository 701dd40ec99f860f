import Derived.Test.YtkfdioikigponaaGreatDoorRiD
set_option maxRecDepth 100000
set_option linter.all false
namespace Go.Ev
/- runes.List: the loop, for every string. -/
noncomputable section
def lI : SA := .mk false (.app 11 (.g (.s 0) (.i (.v 1) (.g (.s 2) .nil)))) (.c 1) true
def lM : SE := .bin 6 .i64 (.len (.s 0)) (.bin 7 .i64 (.c (-1)) (.v 1))
def lP : SE := .bin 6 .i64 (.v 1) (.dw (.s 0) (.v 1))
def lM' : SE := .bin 6 .i64 (.len (.s 0)) (.bin 7 .i64 (.c (-1)) lP)
def lX : SE := .bin 0 .i64 (.dr (.s 0) (.v 1)) (.c 0)
def lA : List SA := [lI, .mk true (.v 1) (.len (.s 0)) true, .mk true (.c 60000) (.bin 6 .i64 (.len (.s 2)) (.c 1)) false,
  .mk false (.app 11 (.g (.s 0) (.i lP (.g (.cat (.s 2) (.one lX)) .nil)))) (.c 1) true, .mk true lM' lM true, .mk true lM' (.c 0) false]
def lB : List SA := [lI, .mk true (.v 1) (.len (.s 0)) false]
def lUs : List AV := [.top, .top, .top, .top, .gv (.sl (K.of 257) 1 (.len (.s 2)) []), .top, .top, .top, .top, .top, .gv (.str (.s 0) []), .ptr (K.of 256) 0, .top, .top, .top, .top, .top, .top, .top, .top, .top]
def lLi : List HO := [.mk 256 (.gob (.iter (.s 0) (.v 1) [])), .mk 257 (.gob (.gh 3 [.i64] (.len (.s 2)) (.s 2)))]
def lD : GE := .app 6 (.g (.s 0) (.i (.v 1) .nil))
def lN : SE := .bin 6 .i64 (.len (.s 2)) (.len lD)
def lR : GE := .cat (.s 2) lD
def lUo : List AV := [.top, .top, .top, .top, .gv (.sl (K.of 258) 1 lN []), .top, .top, .top, .top, .top, .top, .ptr (K.of 256) 0, .top, .top, .top, .top, .top, .top, .top, .top, .top]
def lLo : List HO := [.mk 258 (.gob (.gh 3 [.i64] lN lR))]
def lLt : LT := .mk 49 11 lUs 258 lLi [lI] (some (lM, lM)) (.x 0 lUo) 259 lLo
def lD1 : GE := .app 6 (.g (.s 0) (.i lP .nil))
def lE1 : EqL := .g (.cat (.cat (.s 2) (.one lX)) lD1) lR (.i (.bin 6 .i64 (.bin 6 .i64 (.len (.s 2)) (.c 1)) (.len lD1)) lN .nil)
def lE2 : EqL := .g (.s 2) lR (.i (.len (.s 2)) lN .nil)
end
section
variable {σ : Nat → List Int}
open Classical in
theorem l_inv {e : SE} {g h : GE} : (SA.mk false (.app 11 (.g g (.i e (.g h .nil)))) (.c 1) true).holds σ ↔ lInv (g.eval σ) (e.eval σ) (h.eval σ) := by
  show decide (phiI 11 [g.eval σ, [e.eval σ], h.eval σ] = 1) = true ↔ _
  rw [decide_eq_true_iff]
  exact ite1
theorem l_step (h : lInv (σ 0) ((σ 1).headD 0) (σ 2)) (hp : (σ 1).headD 0 < ((σ 0).length : Int)) : ∃ (x : Int) (w : Nat), 0 ≤ x ∧ x ≤ 1114111 ∧ 1 ≤ w ∧ (σ 1).headD 0 + w ≤ ((σ 0).length : Int) ∧ (SE.dr (.s 0) (.v 1)).eval σ = x ∧ (SE.dw (.s 0) (.v 1)).eval σ = (w : Int) ∧ lX.eval σ = x ∧
    lP.eval σ = (σ 1).headD 0 + w ∧ decAll (σ 0) ((σ 1).headD 0).toNat = x :: decAll (σ 0) ((σ 1).headD 0 + w).toNat := by
  obtain ⟨h1, h2, h3, h4⟩ := h
  have hi : ((σ 1).headD 0).toNat < (σ 0).length := by omega
  obtain ⟨b1, b2, b3⟩ := dec_bounds (σ 0) _ hi
  refine ⟨((Utf8.decode (bytesI (σ 0)) ((σ 1).headD 0).toNat).1 : Int), (Utf8.decode (bytesI (σ 0)) ((σ 1).headD 0).toNat).2, by omega, by omega, b1, by omega, rfl, rfl, ?_, rfl, ?_⟩
  · show IntKind.i64.wrap ((SE.dr (.s 0) (.v 1)).eval σ + 0) = (SE.dr (.s 0) (.v 1)).eval σ
    have e : (SE.dr (.s 0) (.v 1)).eval σ = ((Utf8.decode (bytesI (σ 0)) ((σ 1).headD 0).toNat).1 : Int) := rfl
    rw [Int.add_zero, wrap64 (by omega)]
  · rw [decAll_step hi]
    congr 2
    omega
end
section
variable [Gv]
theorem l_one (hL : LtFact lLt) (h : lInv (Gv.σ 0) ((Gv.σ 1).headD 0) (Gv.σ 2)) : LFactT 49 11 lUs 258 lLi (.x 0 lUo) 259 lLo := by
  have hl : ∀ t ∈ [lLt], LtFact t := by intro t ht; rw [List.mem_singleton] at ht; subst ht; exact hL
  by_cases hp : (Gv.σ 1).headD 0 < ((Gv.σ 0).length : Int)
  · obtain ⟨x, w, x1, x2, w1, w2, hd, hw, hX, hP, hdec⟩ := l_step h hp
    have hinv := h
    obtain ⟨h1, h2, h3, h4⟩ := h
    refine lt_of_run (n := 2000) (A := lA) (T := [(260, 258)]) (E := lE1) noHook_ok (lpT_ok [lLt] hl) ?_ ⟨?_, ?_, trivial⟩ rfl rfl (by kernel_rfl)
    · unfold lA
      simp only [sall_cons]
      refine ⟨l_inv.2 hinv, holdsT hp, holdsF ?_, l_inv.2 ?_, holdsT ?_, holdsF ?_, SAll.nil⟩
      · simp only [SE.eval, binE, GE.eval]; omega
      · rw [hP]; simp only [GE.eval]; exact ⟨by omega, by omega, by rw [List.length_append, List.length_singleton]; omega, h4⟩
      · simp only [lM, lM', SE.eval, binE, GE.eval] at hP ⊢; rw [hP]; omega
      · simp only [lM', SE.eval, binE, GE.eval] at hP ⊢; rw [hP]; omega
    · show (Gv.σ 2 ++ [lX.eval Gv.σ]) ++ decAll (Gv.σ 0) (lP.eval Gv.σ).toNat = Gv.σ 2 ++ decAll (Gv.σ 0) ((Gv.σ 1).headD 0).toNat
      rw [hX, hP, hdec, List.append_assoc]; rfl
    · show ((Gv.σ 2).length : Int) + 1 + ((decAll (Gv.σ 0) (lP.eval Gv.σ).toNat).length : Int) = ((Gv.σ 2).length : Int) + ((decAll (Gv.σ 0) ((Gv.σ 1).headD 0).toNat).length : Int)
      rw [hP, hdec, List.length_cons]; omega
  · have hinv := h
    obtain ⟨h1, h2, h3, h4⟩ := h
    have e : decAll (Gv.σ 0) ((Gv.σ 1).headD 0).toNat = [] := decAll_end (by omega)
    refine lt_of_run (n := 2000) (A := lB) (T := [(257, 258)]) (E := lE2) noHook_ok (lpT_ok [lLt] hl) ?_ ⟨?_, ?_, trivial⟩ rfl rfl (by kernel_rfl)
    · unfold lB
      simp only [sall_cons]
      exact ⟨l_inv.2 hinv, holdsF hp, SAll.nil⟩
    · show Gv.σ 2 = Gv.σ 2 ++ decAll (Gv.σ 0) ((Gv.σ 1).headD 0).toNat
      rw [e, List.append_nil]
    · show ((Gv.σ 2).length : Int) = ((Gv.σ 2).length : Int) + ((decAll (Gv.σ 0) ((Gv.σ 1).headD 0).toNat).length : Int)
      rw [e]; rfl
end
/-- the loop, from every state -/
theorem l_all : ∀ (B : Nat) (σ : Nat → List Int), lInv (σ 0) ((σ 1).headD 0) (σ 2) → lM.eval σ < (B : Int) → @LFactT ⟨σ⟩ 49 11 lUs 258 lLi (.x 0 lUo) 259 lLo
  | 0, σ, h, hb => by
    obtain ⟨h1, h2, h3, h4⟩ := h
    simp only [lM, SE.eval, binE, GE.eval] at hb
    omega
  | B + 1, σ, h, hb => by
    refine @l_one ⟨σ⟩ ?_ h
    intro σ' _ hA hbd
    refine l_all B σ' (l_inv.1 (hA _ (List.mem_singleton.2 rfl))) ?_
    have hbd : 0 ≤ lM.eval σ' ∧ lM.eval σ' < lM.eval σ := hbd
    omega
noncomputable section
def lLtU : LT := .mk 49 11 lUs 258 lLi [lI] none (.x 0 lUo) 259 lLo
end
theorem lU_ok [Gv] : LtFact lLtU := fun σ _ hA _ => l_all ((lM.eval σ).toNat + 1) σ (l_inv.1 (hA _ (List.mem_singleton.2 rfl))) (by omega)
end Go.Ev
