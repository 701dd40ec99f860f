import Derived.Test.YtkfdioikigponaaGreatDoorRdH
import Derived.Test.YtkfdioikigponaaGreatDoorRdM
set_option maxRecDepth 100000
set_option linter.all false
namespace Go.Ev
/- read.Read at a nested text, and where one bracket or prefix too many is open. -/
noncomputable section
def gUs : List AV := [.ptr (K.of 256) 0, .ptr (K.of 257) 0, .gv (.str (.s 0) []), .int .i64 0]
def gLi : List HO := [.mk 256 (.cells 76 false 0 0 [.int .i64 1200, .int .i64 0, .int .i64 0, .nilSlice, .nilSlice]), .mk 257 (.cells 80 false 0 0 [.slice (K.of 258) 0 62 62 (some 6), .map (K.of 259)])]
def gN : SE := .app 15 (.g (.s 0) (.i (.c 0) .nil))
def gE : SE := .app 17 (.g (.s 0) (.i (.c 0) .nil))
def gR1 : TR := .ret (.tuple [.agg [.sym .i64 (.app 24 (.g (.s 0) (.i (.c 0) .nil))) [], .sym .i64 (.bin 6 .i64 (.app 18 (.g (.s 0) (.i (.c 0) .nil))) (.c (-1))) []], .sym .i64 gE [], .agg [.int .i64 0, .int .i64 0]])
def gRP : TR := .ret (.tuple [.agg [.int .i64 0, .int .i64 0], .int .i64 0, .agg [.int .i64 12, .sym .i64 (.app 21 (.g (.s 0) (.i (.c 0) (.i (.c 0) .nil)))) []]])
def gI : SA := .mk false (.app 14 (.g (.s 0) (.i (.c 0) (.i (.c 0) .nil)))) (.c 1) true
def gJ : SA := .mk false (.app 20 (.g (.s 0) (.i (.c 0) (.i (.c 0) .nil)))) (.c 1) true
def gL : SA := .mk true (.c 0) (.len (.s 0)) true
def gT1 : TM := .mk 12 gUs 260 gLi [qA1 1 (.s 0), gL, gI, .mk true (.c 0) gN true] none gR1 260 []
def gTP : TM := .mk 12 gUs 260 gLi [qA1 1 (.s 0), gL, gJ] none gRP 260 []
def A_R1 : List SA := [.mk false (.app 1 (.g (.s 0) .nil)) (.c 1) true, .mk true (.c 0) (.len (.s 0)) true, .mk false (.app 14 (.g (.s 0) (.i (.c 0) (.i (.c 0) .nil)))) (.c 1) true, .mk true (.len (.s 0)) (.c 0) false, .mk false (.rd (.s 0) (.c 0)) (.c 59) false, .mk false (.rd (.s 0) (.c 0)) (.c 9) false, .mk false (.rd (.s 0) (.c 0)) (.c 10) false, .mk false (.rd (.s 0) (.c 0)) (.c 12) false, .mk false (.rd (.s 0) (.c 0)) (.c 13) false, .mk false (.rd (.s 0) (.c 0)) (.c 32) false, .mk false (.c 0) (.len (.s 0)) false, .mk false (.app 15 (.g (.s 0) (.i (.c 0) .nil))) (.c 0) false, .mk true (.c 0) (.app 15 (.g (.s 0) (.i (.c 0) .nil))) true]
def A_RP : List SA := [.mk false (.app 1 (.g (.s 0) .nil)) (.c 1) true, .mk true (.c 0) (.len (.s 0)) true, .mk false (.app 20 (.g (.s 0) (.i (.c 0) (.i (.c 0) .nil)))) (.c 1) true, .mk true (.len (.s 0)) (.c 0) false, .mk false (.rd (.s 0) (.c 0)) (.c 59) false, .mk false (.rd (.s 0) (.c 0)) (.c 9) false, .mk false (.rd (.s 0) (.c 0)) (.c 10) false, .mk false (.rd (.s 0) (.c 0)) (.c 12) false, .mk false (.rd (.s 0) (.c 0)) (.c 13) false, .mk false (.rd (.s 0) (.c 0)) (.c 32) false, .mk false (.c 0) (.len (.s 0)) false]
end
theorem three_mem {α : Type} {P : α → Prop} {a b c : α} (h1 : P a) (h2 : P b) (h3 : P c) : ∀ t ∈ [a, b, c], P t := by
  intro t ht
  simp only [List.mem_cons, List.not_mem_nil, or_false] at ht
  rcases ht with rfl | rfl | rfl <;> assumption
theorem gI1 {σ : Nat → List Int} : gI.holds σ ↔ deepR (σ 0) 0 0 := d_inv (g := .s 0) (a := .c 0) (b := .c 0)
theorem gJ1 {σ : Nat → List Int} : gJ.holds σ ↔ overK (σ 0) 0 0 := o_inv' (g := .s 0) (a := .c 0) (b := .c 0)
theorem deep_first {R : List Int} (h : deepR R 0 0) : ∃ x, R.getD 0 0 = x ∧ (x = 49 ∨ x = 40 ∨ x = 91 ∨ x = 39 ∨ x = 44 ∨ x = 35) := by
  obtain ⟨hc, _⟩ := deep_cases h
  cases hc with
  | base K0 g0 g1 => exact ⟨49, getD_of g0, .inl rfl⟩
  | more k K hk e e' next hd ho hc hn hl =>
    obtain ⟨x, l, ex, hx⟩ := opn_head k
    have := ho 0 (by rw [ex]; simp)
    simp only [ex] at this
    exact ⟨x, getD_of this, .inr hx⟩
theorem over_first {R : List Int} (h : overK R 0 0) : ∃ x, R.getD 0 0 = x ∧ (x = 49 ∨ x = 40 ∨ x = 91 ∨ x = 39 ∨ x = 44 ∨ x = 35) := by
  obtain ⟨k, K, y, hk, fc⟩ := over_cases h (by decide)
  obtain ⟨x, l, ex, hx⟩ := opn_head k
  have := fc.ho 0 (by rw [ex]; simp) 0 rfl
  simp only [ex] at this
  exact ⟨x, this, .inr hx⟩
theorem gT1_ok [Gv] (hV : ∀ G : Gv, @VsOk G 74) : TmFact gT1 := by
  intro σ _ hA _
  have h1 : ascR (σ 0) := (q1 (g := .s 0)).1 (hA _ (by simp))
  have h2 : (0 : Int) < ((σ 0).length : Int) := of_decide_eq_true (hA gL (by simp))
  have h3 : deepR (σ 0) 0 0 := gI1.1 (hA gI (by simp))
  have h4 : 0 < gN.eval σ := of_decide_eq_true (hA (.mk true (.c 0) gN true) (by simp))
  obtain ⟨x, hx, hx2⟩ := deep_first h3
  have hc : (SE.rd (.s 0) (.c 0)).eval σ = x := hx
  have hno : ∀ n : Int, x ≠ n → (SA.mk false (.rd (.s 0) (.c 0)) (.c n) false).holds σ := fun n hn => holdsN (by rw [hc]; exact hn)
  refine @tm_of_run ⟨σ⟩ _ (@hooksTM_ok ⟨σ⟩ [lsT, fTU0, fTU1] (three_mem (@ls_ok ⟨σ⟩ hV) (@fU0_ok ⟨σ⟩) (@fU1_ok ⟨σ⟩))) _ (@noLp_ok ⟨σ⟩) 2000 _ _ _ _ A_R1 _ _ _ [] .nil ?_ trivial rfl rfl (by kernel_rfl)
  unfold A_R1; simp only [sall_cons]
  refine ⟨q1.2 h1, holdsT h2, gI1.2 h3, holdsF ?_, hno _ (by omega), hno _ (by omega), hno _ (by omega), hno _ (by omega), hno _ (by omega), hno _ (by omega), holdsN ?_, holdsN ?_, holdsT h4, SAll.nil⟩
  · show ¬ ((σ 0).length : Int) < 0; omega
  · show ¬ (0 : Int) = ((σ 0).length : Int); omega
  · show ¬ gN.eval σ = 0; omega
theorem gTP_ok [Gv] (hV : ∀ G : Gv, @VsOk G 74) : TmFact gTP := by
  intro σ _ hA _
  have h1 : ascR (σ 0) := (q1 (g := .s 0)).1 (hA _ (by simp))
  have h2 : (0 : Int) < ((σ 0).length : Int) := of_decide_eq_true (hA gL (by simp))
  have h3 : overK (σ 0) 0 0 := gJ1.1 (hA gJ (by simp))
  obtain ⟨x, hx, hx2⟩ := over_first h3
  have hc : (SE.rd (.s 0) (.c 0)).eval σ = x := hx
  have hno : ∀ n : Int, x ≠ n → (SA.mk false (.rd (.s 0) (.c 0)) (.c n) false).holds σ := fun n hn => holdsN (by rw [hc]; exact hn)
  refine @tm_of_run ⟨σ⟩ _ (@hooksTM_ok ⟨σ⟩ [lsT, fPU] (two_mem (@ls_ok ⟨σ⟩ hV) (@fPU_ok ⟨σ⟩))) _ (@noLp_ok ⟨σ⟩) 2000 _ _ _ _ A_RP _ _ _ [] .nil ?_ trivial rfl rfl (by kernel_rfl)
  unfold A_RP; simp only [sall_cons]
  refine ⟨q1.2 h1, holdsT h2, gJ1.2 h3, holdsF ?_, hno _ (by omega), hno _ (by omega), hno _ (by omega), hno _ (by omega), hno _ (by omega), hno _ (by omega), holdsN ?_, SAll.nil⟩
  · show ¬ ((σ 0).length : Int) < 0; omega
  · show ¬ (0 : Int) = ((σ 0).length : Int); omega
end Go.Ev
