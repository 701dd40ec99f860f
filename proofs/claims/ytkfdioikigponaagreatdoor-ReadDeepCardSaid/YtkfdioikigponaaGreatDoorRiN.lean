import Derived.Test.YtkfdioikigponaaGreatDoorRiT
set_option maxRecDepth 100000
set_option linter.all false
namespace Go.Ev
/- read's number: the loop over the digits. -/
noncomputable section
def nI : SA := .mk false (.app 9 (.g (.s 0) (.i (.v 1) (.i (.v 2) (.i (.v 4) .nil))))) (.c 1) true
def oI : SA := .mk false (.app 10 (.g (.s 0) (.i (.v 1) (.i (.v 2) (.i (.v 4) .nil))))) (.c 1) true
def nM : SE := .bin 6 .i64 (.len (.s 0)) (.bin 7 .i64 (.c (-1)) (.v 1))
def nP : SE := .bin 6 .i64 (.v 1) (.dw (.s 0) (.v 1))
def nC : SE := .dr (.s 0) (.v 1)
def nS : SE := .bin 0 .u64 (.bin 2 .u64 (.v 2) (.c 10)) (.bin 0 .u64 (.bin 1 .i32 nC (.c 48)) (.c 0))
def nM' : SE := .bin 6 .i64 (.len (.s 0)) (.bin 7 .i64 (.c (-1)) nP)
def nA : List SA := [nI, .mk true (.v 1) (.len (.s 0)) true, .mk true nC (.c 48) false, .mk true (.c 57) nC false, .mk true (.v 4) nS false,
  .mk false (.app 9 (.g (.s 0) (.i nP (.i nS (.i (.v 4) .nil))))) (.c 1) true, .mk true nM' nM true, .mk true nM' (.c 0) false]
def nB : List SA := [nI, .mk true (.v 1) (.len (.s 0)) false]
def oA : List SA := [oI, .mk true (.v 1) (.len (.s 0)) true, .mk true nC (.c 48) false, .mk true (.c 57) nC false, .mk true (.v 4) nS false,
  .mk false (.app 10 (.g (.s 0) (.i nP (.i nS (.i (.v 4) .nil))))) (.c 1) true, .mk true nM' nM true, .mk true nM' (.c 0) false]
def oB : List SA := [oI, .mk true (.v 1) (.len (.s 0)) true, .mk true nC (.c 48) false, .mk true (.c 57) nC false, .mk true (.v 4) nS true, .mk true nP (.len (.s 0)) false]
def nUs : List AV := [.gv (.str (.s 5) []), .top, .top, .top, .bool true, .top, .sym .u64 (.v 4) [], .sym .u64 (.v 2) [], .top, .top, .top, .top, .top, .top, .top, .top, .top, .top, .top, .top, .top, .top, .top, .top, .top, .top, .top, .top, .ptr (K.of 256) 0, .top, .top, .top, .top, .top, .top, .top, .top, .top, .top, .top, .top, .top, .top, .top, .top, .top, .top, .top, .top, .top, .top, .top, .top, .top, .top, .top, .top]
def nLi : List HO := [.mk 256 (.gob (.iter (.s 0) (.v 1) []))]
def nV : SE := .app 5 (.g (.s 0) .nil)
def nUo : List AV := [.gv (.str (.s 5) []), .top, .top, .top, .bool true, .top, .top, .sym .u64 nV [], .top, .top, .top, .top, .top, .top, .top, .top, .top, .top, .top, .top, .top, .top, .top, .top, .top, .top, .top, .top, .top, .top, .top, .top, .top, .top, .top, .top, .top, .top, .top, .top, .top, .top, .top, .top, .top, .top, .top, .top, .top, .top, .top, .top, .top, .top, .top, .top, .top]
def oUo : List AV := [.gv (.str (.s 5) []), .top, .top, .top, .bool false, .top, .top, .sym .u64 (.v 4) [], .top, .top, .top, .top, .top, .top, .top, .top, .top, .top, .top, .top, .top, .top, .top, .top, .top, .top, .top, .top, .top, .top, .top, .top, .top, .top, .top, .top, .top, .top, .top, .top, .top, .top, .top, .top, .top, .top, .top, .top, .top, .top, .top, .top, .top, .top, .top, .top, .top]
def nLt : LT := .mk 70 19 nUs 257 nLi [nI] (some (nM, nM)) (.x 0 nUo) 257 []
def oLt : LT := .mk 70 19 nUs 257 nLi [oI] (some (nM, nM)) (.x 0 oUo) 257 []
def nLtU : LT := .mk 70 19 nUs 257 nLi [nI] none (.x 0 nUo) 257 []
def oLtU : LT := .mk 70 19 nUs 257 nLi [oI] none (.x 0 oUo) 257 []
end
theorem decV_ge : ∀ (l : List Int) (a : Int), (∀ x ∈ l, isDigB x = true) → 0 ≤ a → a ≤ decV l a ∧ (l ≠ [] → a * 10 ≤ decV l a)
  | [], a, _, _ => ⟨Int.le_refl _, fun h => absurd rfl h⟩
  | x :: l, a, h, ha => by
    have hx := h x (by simp)
    simp only [isDigB, decide_eq_true_eq] at hx
    have := (decV_ge l (a * 10 + (x - 48)) (fun y hy => h y (by simp [hy])) (by omega)).1
    show a ≤ decV l (a * 10 + (x - 48)) ∧ (_ → a * 10 ≤ decV l (a * 10 + (x - 48)))
    exact ⟨by omega, fun _ => by omega⟩
theorem decV_take {d : List Int} {p : Nat} {x : Int} (hx : d[p]? = some x) : decV (d.take (p + 1)) 0 = decV (d.take p) 0 * 10 + (x - 48) := by
  rw [List.take_succ, hx, decV_append]; rfl
theorem decV_part {d : List Int} (h : ∀ x ∈ d, isDigB x = true) (p : Nat) : 0 ≤ decV (d.take p) 0 ∧ decV (d.take p) 0 ≤ decV d 0 ∧ (p < d.length → decV (d.take p) 0 * 10 ≤ decV d 0) := by
  have h1 := (decV_ge (d.take p) 0 (fun x hx => h x (List.mem_of_mem_take hx)) (by omega)).1
  have h2 := decV_ge (d.drop p) (decV (d.take p) 0) (fun x hx => h x (List.mem_of_mem_drop hx)) h1
  rw [← decV_append, List.take_append_drop] at h2
  refine ⟨h1, h2.1, fun hp => h2.2 ?_⟩
  intro e
  have := congrArg List.length e
  rw [List.length_drop] at this
  simp at this
  omega
section
variable {σ : Nat → List Int}
open Classical in
theorem n_inv {g : GE} {a b c : SE} : (SA.mk false (.app 9 (.g g (.i a (.i b (.i c .nil))))) (.c 1) true).holds σ ↔ fitD (g.eval σ) (a.eval σ) (b.eval σ) (c.eval σ) := by
  show decide (phiI 9 [g.eval σ, [a.eval σ], [b.eval σ], [c.eval σ]] = 1) = true ↔ _
  rw [decide_eq_true_iff]
  exact ite1
open Classical in
theorem o_inv {g : GE} {a b c : SE} : (SA.mk false (.app 10 (.g g (.i a (.i b (.i c .nil))))) (.c 1) true).holds σ ↔ overD (g.eval σ) (a.eval σ) (b.eval σ) (c.eval σ) := by
  show decide (phiI 10 [g.eval σ, [a.eval σ], [b.eval σ], [c.eval σ]] = 1) = true ↔ _
  rw [decide_eq_true_iff]
  exact ite1
/-- a digit as a character -/
theorem n_char (h : ∀ x ∈ σ 0, isDigB x = true) (h0 : 0 ≤ (σ 1).headD 0) (hp : (σ 1).headD 0 < ((σ 0).length : Int)) : ∃ x, (σ 0)[((σ 1).headD 0).toNat]? = some x ∧ 48 ≤ x ∧ x ≤ 57 ∧ nC.eval σ = x ∧ nP.eval σ = (σ 1).headD 0 + 1 := by
  have hi : ((σ 1).headD 0).toNat < (σ 0).length := by omega
  have hx := h _ (List.getElem_mem hi)
  simp only [isDigB, decide_eq_true_eq] at hx
  have hi' : ((σ 1).headD 0).toNat < (bytesI (σ 0)).size := by rw [bytesI_size]; exact hi
  have hb : ((bytesI (σ 0))[((σ 1).headD 0).toNat]'hi').toNat = ((σ 0)[((σ 1).headD 0).toNat]).toNat := by
    have hb : (bytesI (σ 0))[((σ 1).headD 0).toNat]'hi' = UInt8.ofNat ((σ 0)[((σ 1).headD 0).toNat]).toNat := by
      have := bytesI_get (l := σ 0) _ hi
      show (bytesI (σ 0)).data[((σ 1).headD 0).toNat]'hi' = _
      rw [Array.getElem_eq_iff]; exact this
    rw [hb, UInt8.toNat_ofNat']
    exact Nat.mod_eq_of_lt (by omega)
  have hdec := decode_ascii (bytesI (σ 0)) _ hi' (by rw [hb]; omega)
  refine ⟨_, List.getElem?_eq_getElem hi, hx.1, hx.2, ?_, ?_⟩
  · show ((Utf8.decode (bytesI (σ 0)) ((σ 1).headD 0).toNat).1 : Int) = _
    rw [hdec, hb]; show (((σ 0)[((σ 1).headD 0).toNat]).toNat : Int) = _; omega
  · show (σ 1).headD 0 + ((Utf8.decode (bytesI (σ 0)) ((σ 1).headD 0).toNat).2 : Int) = _
    rw [hdec]; rfl
theorem n_sum {x s : Int} (hc : nC.eval σ = x) (hx : 48 ≤ x ∧ x ≤ 57) (hs : (σ 2).headD 0 = s) (h0 : 0 ≤ s) (h1 : s * 10 + 9 ≤ 18446744073709551615) : nS.eval σ = s * 10 + (x - 48) := by
  show IntKind.u64.wrap (IntKind.u64.wrap ((σ 2).headD 0 * 10) + IntKind.u64.wrap (IntKind.i32.wrap (nC.eval σ - 48) + 0)) = _
  rw [hc, hs, wrap32 (by omega), Int.add_zero, wrapU64 (x := s * 10) (by omega), wrapU64 (x := x - 48) (by omega), wrapU64 (by omega)]
end
section
variable [Gv]
theorem n_one (hL : LtFact nLt) (h : fitD (Gv.σ 0) ((Gv.σ 1).headD 0) ((Gv.σ 2).headD 0) ((Gv.σ 4).headD 0)) : LFactT 70 19 nUs 257 nLi (.x 0 nUo) 257 [] := by
  have hl : ∀ t ∈ [nLt], LtFact t := by intro t ht; rw [List.mem_singleton] at ht; subst ht; exact hL
  have hinv := h
  obtain ⟨h1, h2, h3, h4, h5, h6⟩ := h
  by_cases hp : (Gv.σ 1).headD 0 < ((Gv.σ 0).length : Int)
  · obtain ⟨x, hx, x1, x2, hC, hP⟩ := n_char h1.1 h2 hp
    obtain ⟨q1, q2, q3⟩ := decV_part h1.1 ((Gv.σ 1).headD 0).toNat
    obtain ⟨r1, r2, r3⟩ := decV_part h1.1 (((Gv.σ 1).headD 0).toNat + 1)
    have ht := decV_take hx
    have q4 := q3 (by omega)
    have hS := n_sum (σ := Gv.σ) hC ⟨x1, x2⟩ h4 q1 (by omega)
    rw [← ht] at hS
    refine lt_of_run (n := 2000) (A := nA) (T := []) (E := .nil) noHook_ok (lpT_ok [nLt] hl) ?_ trivial rfl rfl (by kernel_rfl)
    unfold nA
    simp only [sall_cons]
    refine ⟨n_inv.2 hinv, holdsT hp, holdsF ?_, holdsF ?_, holdsF ?_, n_inv.2 ?_, holdsT ?_, holdsF ?_, SAll.nil⟩
    · rw [hC]; simp only [SE.eval]; omega
    · rw [hC]; simp only [SE.eval]; omega
    · rw [hS]; simp only [SE.eval]; omega
    · rw [hP, hS]
      refine ⟨h1, by omega, by simp only [GE.eval]; omega, ?_, h5, h6⟩
      rw [show ((Gv.σ 1).headD 0 + 1).toNat = ((Gv.σ 1).headD 0).toNat + 1 by omega]; rfl
    · simp only [nM, nM', SE.eval, binE, GE.eval] at hP ⊢; rw [show (SE.eval Gv.σ nP) = _ from hP]; omega
    · simp only [nM', SE.eval, binE, GE.eval] at hP ⊢; rw [show (SE.eval Gv.σ nP) = _ from hP]; omega
  · refine lt_of_run (n := 2000) (A := nB) (T := []) (E := .i (.v 2) nV .nil) noHook_ok (lpT_ok [nLt] hl) ?_ ⟨?_, trivial⟩ rfl rfl (by kernel_rfl)
    · unfold nB
      simp only [sall_cons]
      exact ⟨n_inv.2 hinv, holdsF hp, SAll.nil⟩
    · show (Gv.σ 2).headD 0 = decV (Gv.σ 0) 0
      rw [h4, List.take_of_length_le (by omega)]
theorem o_one (hL : LtFact oLt) (h : overD (Gv.σ 0) ((Gv.σ 1).headD 0) ((Gv.σ 2).headD 0) ((Gv.σ 4).headD 0)) : LFactT 70 19 nUs 257 nLi (.x 0 oUo) 257 [] := by
  have hl : ∀ t ∈ [oLt], LtFact t := by intro t ht; rw [List.mem_singleton] at ht; subst ht; exact hL
  have hinv := h
  obtain ⟨h1, h2, hp, h4, h5, h6, h7, h8⟩ := h
  obtain ⟨x, hx, x1, x2, hC, hP⟩ := n_char h1.1 h2 hp
  obtain ⟨q1, q2, q3⟩ := decV_part h1.1 ((Gv.σ 1).headD 0).toNat
  obtain ⟨r1, r2, r3⟩ := decV_part h1.1 (((Gv.σ 1).headD 0).toNat + 1)
  have ht := decV_take hx
  have q4 := q3 (by omega)
  have hS := n_sum (σ := Gv.σ) hC ⟨x1, x2⟩ h4 q1 (by omega)
  rw [← ht] at hS
  by_cases hq : (Gv.σ 1).headD 0 + 1 < ((Gv.σ 0).length : Int)
  · have r4 := r3 (by omega)
    refine lt_of_run (n := 2000) (A := oA) (T := []) (E := .nil) noHook_ok (lpT_ok [oLt] hl) ?_ trivial rfl rfl (by kernel_rfl)
    unfold oA
    simp only [sall_cons]
    refine ⟨o_inv.2 hinv, holdsT hp, holdsF ?_, holdsF ?_, holdsF ?_, o_inv.2 ?_, holdsT ?_, holdsF ?_, SAll.nil⟩
    · rw [hC]; simp only [SE.eval]; omega
    · rw [hC]; simp only [SE.eval]; omega
    · rw [hS]; simp only [SE.eval]; omega
    · rw [hP, hS]
      refine ⟨h1, by omega, by simp only [GE.eval]; omega, ?_, h5, h6, h7, h8⟩
      rw [show ((Gv.σ 1).headD 0 + 1).toNat = ((Gv.σ 1).headD 0).toNat + 1 by omega]; rfl
    · simp only [nM, nM', SE.eval, binE, GE.eval] at hP ⊢; rw [show (SE.eval Gv.σ nP) = _ from hP]; omega
    · simp only [nM', SE.eval, binE, GE.eval] at hP ⊢; rw [show (SE.eval Gv.σ nP) = _ from hP]; omega
  · have hall : decV ((Gv.σ 0).take (((Gv.σ 1).headD 0).toNat + 1)) 0 = decV (Gv.σ 0) 0 := by rw [List.take_of_length_le (by omega)]
    refine lt_of_run (n := 2000) (A := oB) (T := []) (E := .nil) noHook_ok (lpT_ok [oLt] hl) ?_ trivial rfl rfl (by kernel_rfl)
    unfold oB
    simp only [sall_cons]
    refine ⟨o_inv.2 hinv, holdsT hp, holdsF ?_, holdsF ?_, holdsT ?_, holdsF ?_, SAll.nil⟩
    · rw [hC]; simp only [SE.eval]; omega
    · rw [hC]; simp only [SE.eval]; omega
    · rw [hS]; simp only [SE.eval]; omega
    · rw [hP]; simp only [SE.eval, GE.eval]; omega
end
theorem n_all : ∀ (B : Nat) (σ : Nat → List Int), fitD (σ 0) ((σ 1).headD 0) ((σ 2).headD 0) ((σ 4).headD 0) → nM.eval σ < (B : Int) → @LFactT ⟨σ⟩ 70 19 nUs 257 nLi (.x 0 nUo) 257 []
  | 0, σ, h, hb => by
    obtain ⟨h1, h2, h3, h4, h5⟩ := h
    simp only [nM, SE.eval, binE, GE.eval] at hb
    omega
  | B + 1, σ, h, hb => by
    refine @n_one ⟨σ⟩ ?_ h
    intro σ' _ hA hbd
    refine n_all B σ' (n_inv.1 (hA _ (List.mem_singleton.2 rfl))) ?_
    have hbd : 0 ≤ nM.eval σ' ∧ nM.eval σ' < nM.eval σ := hbd
    omega
theorem o_all : ∀ (B : Nat) (σ : Nat → List Int), overD (σ 0) ((σ 1).headD 0) ((σ 2).headD 0) ((σ 4).headD 0) → nM.eval σ < (B : Int) → @LFactT ⟨σ⟩ 70 19 nUs 257 nLi (.x 0 oUo) 257 []
  | 0, σ, h, hb => by
    obtain ⟨h1, h2, h3, h4, h5⟩ := h
    simp only [nM, SE.eval, binE, GE.eval] at hb
    omega
  | B + 1, σ, h, hb => by
    refine @o_one ⟨σ⟩ ?_ h
    intro σ' _ hA hbd
    refine o_all B σ' (o_inv.1 (hA _ (List.mem_singleton.2 rfl))) ?_
    have hbd : 0 ≤ nM.eval σ' ∧ nM.eval σ' < nM.eval σ := hbd
    omega
theorem nU_ok [Gv] : LtFact nLtU := fun σ _ hA _ => n_all ((nM.eval σ).toNat + 1) σ (n_inv.1 (hA _ (List.mem_singleton.2 rfl))) (by omega)
theorem oU_ok [Gv] : LtFact oLtU := fun σ _ hA _ => o_all ((nM.eval σ).toNat + 1) σ (o_inv.1 (hA _ (List.mem_singleton.2 rfl))) (by omega)
end Go.Ev
