import Derived.Test.YtkfdioikigponaaGreatDoorRiN
import Derived.Test.YtkfdioikigponaaGreatDoorRiL
import Derived.Test.YtkfdioikigponaaGreatDoorRiV
set_option maxRecDepth 100000
set_option linter.all false
namespace Go.Ev
/- strings.TrimLeft, read's number, runes.List, read.Read at an integer's text: as templates. -/
noncomputable section
def qA1 (k : Nat) (g : GE) : SA := .mk false (.app k (.g g .nil)) (.c 1) true
def trUs : List AV := [.gv (.str (.s 0) []), .str 2 11053]
def trR : GE := .app 3 (.g (.s 0) .nil)
def trT : TM := .mk 87 trUs 256 [] [qA1 13 (.s 0)] none (.ret (.gv (.str trR []))) 256 []
def trC : GE := .cut (.s 0) (.c 1) (.len (.s 0))
def trA (c d : Int) : List SA := [.mk false (.rd (.s 0) (.c 0)) (.c c) true, .mk false (.rd trC (.c 0)) (.c d) true, .mk false (.eqg (.s 0) (.lit 0 0)) (.c 1) false, .mk true (.c 0) (.len (.s 0)) true, .mk true (.len (.s 0)) (.c 1) false, .mk true (.c 0) (.len trC) true]
def trB (c : Int) : List SA := [.mk false (.rd (.s 0) (.c 0)) (.c c) true, .mk false (.eqg (.s 0) (.lit 0 0)) (.c 1) false, .mk true (.c 0) (.len (.s 0)) true]
def trRunA (c d : Int) : Bool := callEnd [] 256 256 (.g trC trR .nil) [] (.ret (.gv (.str trR []))) (enter (runL noHook noLp 2000) 87 (aVs (trA c d) trUs) (withL (aHO (trA c d) []) 256))
def trRunB (c : Int) : Bool := callEnd [] 256 256 (.g (.s 0) trR .nil) [] (.ret (.gv (.str trR []))) (enter (runL noHook noLp 2000) 87 (aVs (trB c) trUs) (withL (aHO (trB c) []) 256))
def vT : TM := .mk 74 [.gv (.str (.s 0) [])] 256 [] [qA1 1 (.s 0)] none (.ret (.bool true)) 256 []
def numUs : List AV := [.gv (.str (.s 0) [])]
def numRF : TR := .ret (.tuple [.sym .i64 (.app 6 (.g (.s 0) .nil)) [], .bool true, .bool true])
def numT : TM := .mk 70 numUs 256 [] [qA1 13 (.s 0), qA1 3 (.s 0)] none numRF 256 []
def lsO : List HO := [.mk 256 (.gob (.gh 3 [.i64] (.len (.s 0)) (.s 0)))]
def lsR : TR := .ret (.tuple [.gv (.sl (K.of 256) 1 (.len (.s 0)) []), .int .i64 0])
def lsT : TM := .mk 49 numUs 256 [] [qA1 1 (.s 0), .mk true (.c 0) (.len (.s 0)) true] none lsR 257 lsO
def qX0 : SE := .bin 0 .i64 (.dr (.s 0) (.c 0)) (.c 0)
def qW0 : SE := .dw (.s 0) (.c 0)
def qL0 : GE := .app 6 (.g (.s 0) (.i qW0 .nil))
def lsA : List SA := [qA1 1 (.s 0), .mk true (.c 0) (.len (.s 0)) true, .mk false (.app 11 (.g (.s 0) (.i qW0 (.g (.one qX0) .nil)))) (.c 1) true]
def lsE : EqL := .g (.cat (.one qX0) qL0) (.s 0) (.i (.bin 6 .i64 (.c 1) (.len qL0)) (.len (.s 0)) .nil)
def nmA (sg : Bool) (k : Nat) (r : Bool) : List SA := [qA1 13 (.s 0), .mk false (.eqg trR (.lit 0 0)) (.c 1) false, .mk true (.c 1) (.bin 1 .i64 (.len (.s 0)) (.len trR)) false, .mk true (.c 0) (.len (.s 0)) true, .mk false (.rd (.s 0) (.c 0)) (.c 45) sg,
  .mk false (.app 9 (.g trR (.i (.c 0) (.i (.c 0) (.i (.c (bif sg then 2305843009213693952 else 2305843009213693951)) .nil))))) (.c 1) r]
def nmV : SE := .bin 0 .i64 (.app 5 (.g trR .nil)) (.c 0)
end
theorem trA_43_48 : trRunA 43 48 = true := by kernel_rfl
theorem trA_43_49 : trRunA 43 49 = true := by kernel_rfl
theorem trA_43_50 : trRunA 43 50 = true := by kernel_rfl
theorem trA_43_51 : trRunA 43 51 = true := by kernel_rfl
theorem trA_43_52 : trRunA 43 52 = true := by kernel_rfl
theorem trA_43_53 : trRunA 43 53 = true := by kernel_rfl
theorem trA_43_54 : trRunA 43 54 = true := by kernel_rfl
theorem trA_43_55 : trRunA 43 55 = true := by kernel_rfl
theorem trA_43_56 : trRunA 43 56 = true := by kernel_rfl
theorem trA_43_57 : trRunA 43 57 = true := by kernel_rfl
theorem trA_45_48 : trRunA 45 48 = true := by kernel_rfl
theorem trA_45_49 : trRunA 45 49 = true := by kernel_rfl
theorem trA_45_50 : trRunA 45 50 = true := by kernel_rfl
theorem trA_45_51 : trRunA 45 51 = true := by kernel_rfl
theorem trA_45_52 : trRunA 45 52 = true := by kernel_rfl
theorem trA_45_53 : trRunA 45 53 = true := by kernel_rfl
theorem trA_45_54 : trRunA 45 54 = true := by kernel_rfl
theorem trA_45_55 : trRunA 45 55 = true := by kernel_rfl
theorem trA_45_56 : trRunA 45 56 = true := by kernel_rfl
theorem trA_45_57 : trRunA 45 57 = true := by kernel_rfl
theorem trB_48 : trRunB 48 = true := by kernel_rfl
theorem trB_49 : trRunB 49 = true := by kernel_rfl
theorem trB_50 : trRunB 50 = true := by kernel_rfl
theorem trB_51 : trRunB 51 = true := by kernel_rfl
theorem trB_52 : trRunB 52 = true := by kernel_rfl
theorem trB_53 : trRunB 53 = true := by kernel_rfl
theorem trB_54 : trRunB 54 = true := by kernel_rfl
theorem trB_55 : trRunB 55 = true := by kernel_rfl
theorem trB_56 : trRunB 56 = true := by kernel_rfl
theorem trB_57 : trRunB 57 = true := by kernel_rfl
theorem trRunA_ok {c d : Int} (hc : c = 43 ∨ c = 45) (hd : 48 ≤ d ∧ d ≤ 57) : trRunA c d = true := by
  have hd : d = 48 ∨ d = 49 ∨ d = 50 ∨ d = 51 ∨ d = 52 ∨ d = 53 ∨ d = 54 ∨ d = 55 ∨ d = 56 ∨ d = 57 := by omega
  rcases hc with rfl | rfl <;> rcases hd with rfl | rfl | rfl | rfl | rfl | rfl | rfl | rfl | rfl | rfl <;> first | with_reducible exact trA_43_48 | with_reducible exact trA_43_49 | with_reducible exact trA_43_50 | with_reducible exact trA_43_51 | with_reducible exact trA_43_52 | with_reducible exact trA_43_53 | with_reducible exact trA_43_54 | with_reducible exact trA_43_55 | with_reducible exact trA_43_56 | with_reducible exact trA_43_57 | with_reducible exact trA_45_48 | with_reducible exact trA_45_49 | with_reducible exact trA_45_50 | with_reducible exact trA_45_51 | with_reducible exact trA_45_52 | with_reducible exact trA_45_53 | with_reducible exact trA_45_54 | with_reducible exact trA_45_55 | with_reducible exact trA_45_56 | with_reducible exact trA_45_57
theorem trRunB_ok {c : Int} (hd : 48 ≤ c ∧ c ≤ 57) : trRunB c = true := by
  have hd : c = 48 ∨ c = 49 ∨ c = 50 ∨ c = 51 ∨ c = 52 ∨ c = 53 ∨ c = 54 ∨ c = 55 ∨ c = 56 ∨ c = 57 := by omega
  rcases hd with rfl | rfl | rfl | rfl | rfl | rfl | rfl | rfl | rfl | rfl <;> first | with_reducible exact trB_48 | with_reducible exact trB_49 | with_reducible exact trB_50 | with_reducible exact trB_51 | with_reducible exact trB_52 | with_reducible exact trB_53 | with_reducible exact trB_54 | with_reducible exact trB_55 | with_reducible exact trB_56 | with_reducible exact trB_57
/- the parts of an integer's text -/
theorem drop_dig (s : List Int) : s.drop (sgN s) = digS s ++ s.drop (endN s) := by
  have h1 : s.drop (endN s) = (s.drop (sgN s)).drop (digS s).length := by rw [List.drop_drop]; rfl
  have : digS s <+: s.drop (sgN s) := List.takeWhile_prefix _
  obtain ⟨t, ht⟩ := this
  rw [h1, ← ht, List.drop_left]
theorem sg_cases (s : List Int) : (sgN s = 0 ∧ neg s = false ∧ s.headD 0 ≠ 43 ∧ s.headD 0 ≠ 45) ∨ ∃ c l, s = c :: l ∧ (c = 43 ∨ c = 45) ∧ sgN s = 1 ∧ neg s = decide (c = 45) := by
  by_cases h : s.headD 0 = 43 ∨ s.headD 0 = 45
  · right
    cases s with
    | nil => simp at h
    | cons c l => exact ⟨c, l, rfl, by simpa using h, if_pos h, rfl⟩
  · exact .inl ⟨if_neg h, decide_eq_false (by omega), by omega, by omega⟩
theorem tok_parts {s : List Int} (h : tokR s) : s.drop (sgN s) = digS s ∧ 1 ≤ (digS s).length ∧ (digS s).length ≤ 200 ∧ s.length = sgN s + (digS s).length ∧ sgN s ≤ 1 ∧ ∀ x ∈ digS s, 48 ≤ x ∧ x ≤ 57 := by
  have h1 := drop_dig s
  rw [h.2, List.append_nil] at h1
  have h2 := congrArg List.length h1
  rw [List.length_drop] at h2
  have hs : sgN s ≤ 1 := by unfold sgN; split <;> omega
  have := h.1.2.1
  exact ⟨h1, h.1.2.1, h.1.2.2, by omega, hs, fun x hx => by simpa [isDigB] using h.1.1 x hx⟩
section
variable {σ : Nat → List Int}
open Classical in
theorem q13 {g : GE} : (qA1 13 g).holds σ ↔ tokR (g.eval σ) := by
  show decide (phiI 13 [g.eval σ] = 1) = true ↔ _
  rw [decide_eq_true_iff]; exact ite1
open Classical in
theorem q2 {g : GE} : (qA1 2 g).holds σ ↔ intR (g.eval σ) := by
  show decide (phiI 2 [g.eval σ] = 1) = true ↔ _
  rw [decide_eq_true_iff]; exact ite1
open Classical in
theorem q3 {g : GE} : (qA1 3 g).holds σ ↔ fitR (g.eval σ) := by
  show decide (phiI 3 [g.eval σ] = 1) = true ↔ _
  rw [decide_eq_true_iff]; exact ite1
open Classical in
theorem q4 {g : GE} : (qA1 4 g).holds σ ↔ overR (g.eval σ) := by
  show decide (phiI 4 [g.eval σ] = 1) = true ↔ _
  rw [decide_eq_true_iff]; exact ite1
theorem q1 {g : GE} : (qA1 1 g).holds σ ↔ ascR (g.eval σ) := asc_iff
theorem lit00 {g : GE} (h : 1 ≤ (g.eval σ).length) : (SA.mk false (.eqg g (.lit 0 0)) (.c 1) false).holds σ := by
  refine holdsN ?_
  have e : (GE.lit 0 0).eval σ = [] := rfl
  show ¬ (if g.eval σ = (GE.lit 0 0).eval σ then (1 : Int) else 0) = 1
  rw [e, if_neg (by rintro e; rw [e] at h; simp at h)]
  decide
end
theorem one_mem {α : Type} {P : α → Prop} {a : α} (h : P a) : ∀ t ∈ [a], P t := by intro t ht; rw [List.mem_singleton] at ht; subst ht; exact h
theorem two_mem {α : Type} {P : α → Prop} {a b : α} (h : P a) (h' : P b) : ∀ t ∈ [a, b], P t := by
  intro t ht
  rcases List.mem_cons.1 ht with rfl | ht
  · exact h
  · exact one_mem h' t ht
theorem tr_ok [Gv] : TmFact trT := by
  intro σ _ hA _
  have hA := q13.1 (hA _ (List.mem_singleton.2 rfl))
  have hA : tokR (σ 0) := hA
  obtain ⟨p1, p2, p3, p4, p5, p6⟩ := tok_parts hA
  rcases sg_cases (σ 0) with ⟨s1, s2, s3, s4⟩ | ⟨c, l, e, hc, s1, s2⟩
  · rw [s1, List.drop_zero] at p1
    obtain ⟨x, l, e⟩ : ∃ x l, σ 0 = x :: l := by
      cases hs : σ 0 with
      | nil => rw [← p1, hs] at p2; simp at p2
      | cons x l => exact ⟨x, l, rfl⟩
    have hx := p6 x (by rw [← p1, e]; simp)
    refine @tm_of_run ⟨σ⟩ _ (@noHook_ok ⟨σ⟩) _ (@noLp_ok ⟨σ⟩) 2000 _ _ _ _ (trB x) _ _ _ [] (.g (.s 0) trR .nil) ?_ ⟨?_, trivial⟩ rfl rfl (trRunB_ok hx)
    · unfold trB
      simp only [sall_cons]
      refine ⟨holdsE ?_, lit00 ?_, holdsT ?_, SAll.nil⟩
      · show (σ 0).getD 0 0 = x; rw [e]; rfl
      · show 1 ≤ (σ 0).length; rw [e]; simp
      · show (0 : Int) < ((σ 0).length : Int); rw [e]; simp only [List.length_cons]; omega
    · show σ 0 = digS (σ 0); exact p1
  · rw [s1, e, List.drop_succ_cons, List.drop_zero] at p1
    rw [← e] at p1
    obtain ⟨d, m, ed⟩ : ∃ d m, l = d :: m := by
      cases l with
      | nil => rw [← p1] at p2; simp at p2
      | cons d m => exact ⟨d, m, rfl⟩
    have hd := p6 d (by rw [← p1, ed]; simp)
    have hcut : trC.eval σ = l := by
      show ((σ 0).take ((σ 0).length : Int).toNat).drop 1 = l
      rw [Int.toNat_natCast, List.take_length, e]; rfl
    refine @tm_of_run ⟨σ⟩ _ (@noHook_ok ⟨σ⟩) _ (@noLp_ok ⟨σ⟩) 2000 _ _ _ _ (trA c d) _ _ _ [] (.g trC trR .nil) ?_ ⟨?_, trivial⟩ rfl rfl (trRunA_ok hc hd)
    · unfold trA
      simp only [sall_cons]
      refine ⟨holdsE ?_, holdsE ?_, lit00 ?_, holdsT ?_, holdsF ?_, holdsT ?_, SAll.nil⟩
      · show (σ 0).getD 0 0 = c; rw [e]; rfl
      · show (trC.eval σ).getD 0 0 = d; rw [hcut, ed]; rfl
      · show 1 ≤ (σ 0).length; rw [e]; simp
      · show (0 : Int) < ((σ 0).length : Int); rw [e]; simp only [List.length_cons]; omega
      · show ¬ ((σ 0).length : Int) < 1; rw [e]; simp only [List.length_cons]; omega
      · show (0 : Int) < ((trC.eval σ).length : Int); rw [hcut, ed]; simp only [List.length_cons]; omega
    · show trC.eval σ = digS (σ 0); rw [hcut]; exact p1
end Go.Ev
