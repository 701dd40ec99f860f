import Derived.Test.YtkfdioikigponaaGreatDoorRiZ
import Derived.Test.YtkfdioikigponaaGreatDoorRdP
set_option maxRecDepth 100000
set_option linter.all false
namespace Go.Ev
/- read's form at nested brackets and prefixes: what is told of it; where the token ends. -/
noncomputable section
def dI : SA := .mk false (.app 14 (.g (.s 0) (.i (.v 1) (.i (.v 2) .nil)))) (.c 1) true
def fUs : List AV := [.ptr (K.of 256) 0]
def fLi : List HO := [.mk 256 (.cells 65 false 0 0 [.ptr (K.of 258) 0, .ptr (K.of 259) 0, .gv (.sl (K.of 257) 1 (.len (.s 0)) []), .sym .i64 (.v 1) [], .sym .i64 (.v 2) []]), .mk 257 (.gob (.gh 3 [.i64] (.len (.s 0)) (.s 0))), .mk 258 (.cells 76 false 0 0 [.int .i64 1200, .int .i64 0, .int .i64 0, .nilSlice, .nilSlice])]
def fLo0 : List HO := [.mk 256 (.cells 65 false 0 0 [.ptr (K.of 258) 0, .ptr (K.of 259) 0, .gv (.sl (K.of 257) 1 (.len (.s 0)) []), .sym .i64 (.bin 6 .i64 (.v 1) (.c 1)) [], .sym .i64 (.v 2) []]), .mk 257 (.gob (.gh 3 [.i64] (.len (.s 0)) (.s 0))), .mk 258 (.cells 76 false 0 0 [.int .i64 1200, .int .i64 0, .int .i64 0, .nilSlice, .nilSlice])]
def fLo : List HO := [.mk 256 (.cells 65 false 0 0 [.ptr (K.of 258) 0, .ptr (K.of 259) 0, .gv (.sl (K.of 257) 1 (.len (.s 0)) []), .sym .i64 (.app 17 (.g (.s 0) (.i (.v 1) .nil))) [], .sym .i64 (.v 2) []]), .mk 257 (.gob (.gh 3 [.i64] (.len (.s 0)) (.s 0))), .mk 258 (.cells 76 false 0 0 [.int .i64 1200, .sym .i64 (.app 18 (.g (.s 0) (.i (.v 1) .nil))) [], .sym .i64 (.app 19 (.g (.s 0) (.i (.v 1) .nil))) [], .gv (.sl (K.of 260) 1 (.app 18 (.g (.s 0) (.i (.v 1) .nil))) []), .nilSlice]), .mk 260 (.gob (.junk 84))]
def fR0 : TR := (.ret (.agg [.int .i64 0, .sym .i64 (.c 1) []]))
def fR1 : TR := (.ret (.agg [.sym .i64 (.app 24 (.g (.s 0) (.i (.v 1) .nil))) [], .sym .i64 (.bin 6 .i64 (.app 18 (.g (.s 0) (.i (.v 1) .nil))) (.c (-1))) []]))
def fB : Option (SE × SE) := some ((.app 15 (.g (.s 0) (.i (.v 1) .nil))), (.app 15 (.g (.s 0) (.i (.v 1) .nil))))
def fT0 : TM := .mk 37 fUs 260 fLi [dI, .mk false (.app 15 (.g (.s 0) (.i (.v 1) .nil))) (.c 0) true] fB fR0 260 fLo0
def fT1 : TM := .mk 37 fUs 260 fLi [dI, .mk true (.c 0) (.app 15 (.g (.s 0) (.i (.v 1) .nil))) true] fB fR1 261 fLo
def kUs : List AV := [.ptr (K.of 256) 0, .top, .ptr (K.of 258) 0, .top, .bool false, .ptr (K.of 259) 0, .top, .top, .top, .top, .top, .top, .top, .top, .top, .top, .top, .top, .top, .top, .top, .top, .top, .top, .top, .top, .top, .top, .top, .top, .top, .top, .top, .top, .top, .top, .top, .top, .top, .top, .top, .top, .top, .top, .top, .top, .top, .top, .top, .top, .top, .top, .top, .top, .top, .top, .top, .top, .top, .top, .top, .top, .top, .top, .top]
def kLi : List HO := [.mk 256 (.cells 65 false 0 0 [.ptr (K.of 261) 0, .ptr (K.of 262) 0, .gv (.sl (K.of 257) 1 (.len (.s 0)) []), .sym .i64 (.v 1) [], .sym .i64 (.v 2) []]), .mk 257 (.gob (.gh 3 [.i64] (.len (.s 0)) (.s 0))), .mk 258 (.cells 31 false 0 0 [.int .i64 0, .int .i64 0]), .mk 259 (.cells 108 false 0 0 [.ptr (K.of 259) 0, .gv (.sl (K.of 260) 1 (.len (.s 3)) [])]), .mk 260 (.gob (.gh 5 [.u8] (.len (.s 3)) (.s 3)))]
def kI : SA := .mk false (.app 23 (.g (.s 0) (.i (.v 1) .nil))) (.c 1) true
def kLt : LT := .mk 53 7 kUs 263 kLi [kI] none (.x 0 kUs) 263 kLi
def kB : List SA := [kI, .mk true tP (.len (.s 0)) true, .mk true tP (.c 0) false, .mk true tC (.c 0) false, tNo 40, .mk false tC (.c 41) true]
def kC : List SA := [kI, .mk true tP (.len (.s 0)) true, .mk true tP (.c 0) false, .mk true tC (.c 0) false, tNo 40, tNo 41, tNo 91, .mk false tC (.c 93) true]
def kE : List SA := [kI, .mk true tP (.len (.s 0)) false]
end
section
variable {σ : Nat → List Int}
open Classical in
theorem d_inv {g : GE} {a b : SE} : (SA.mk false (.app 14 (.g g (.i a (.i b .nil)))) (.c 1) true).holds σ ↔ deepR (g.eval σ) (a.eval σ) (b.eval σ) := by
  show decide (phiI 14 [g.eval σ, [a.eval σ], [b.eval σ]] = 1) = true ↔ _
  rw [decide_eq_true_iff]
  exact ite1
open Classical in
theorem st_inv {g : GE} {a : SE} : (SA.mk false (.app 23 (.g g (.i a .nil))) (.c 1) true).holds σ ↔ stopR (g.eval σ) (a.eval σ) := by
  show decide (phiI 23 [g.eval σ, [a.eval σ]] = 1) = true ↔ _
  rw [decide_eq_true_iff]
  exact ite1
end
theorem evC [Gv] (n : Int) : (SE.c n).eval Gv.σ = n := rfl
theorem val49 : valI [49] = 1 := by decide +kernel
theorem dig49 : digS [49] = [49] := by decide +kernel
theorem tok49 : tokR [49] := by
  refine ⟨?_, by decide +kernel⟩
  rw [dig49]
  exact ⟨by decide +kernel, by decide, by decide⟩
theorem fit49 : fitR [49] := by unfold fitR; rw [dig49]; decide +kernel
theorem k_ok [Gv] : LtFact kLt := by
  intro σ _ hA _
  have h : stopR (σ 0) ((σ 1).headD 0) := st_inv.1 (hA _ (List.mem_singleton.2 rfl))
  have hinv := h
  obtain ⟨h1, h2, h3⟩ := h
  have hP : 0 ≤ (σ 1).headD 0 → (σ 1).headD 0 ≤ 2000 → tP.eval σ = (σ 1).headD 0 := by
    intro a b
    show IntKind.i64.wrap ((σ 1).headD 0 + 0) = _
    rw [Int.add_zero, wrap64 (by omega)]
  have hC : ∀ x, (σ 0)[((σ 1).headD 0).toNat]? = some x → tP.eval σ = (σ 1).headD 0 ∧ (σ 1).headD 0 < ((σ 0).length : Int) ∧ tC.eval σ = x := by
    intro x hx
    have hlt := (List.getElem?_eq_some_iff.1 hx).1
    have e := hP h1 (by omega)
    refine ⟨e, by omega, ?_⟩
    show (σ 0).getD (tP.eval σ).toNat 0 = x
    rw [e]; exact getD_of hx
  rcases h3 with h3 | h3 | h3
  · have e := hP h1 (by omega)
    refine @lt_of_run ⟨σ⟩ _ (@noHook_ok ⟨σ⟩) _ (@noLp_ok ⟨σ⟩) 2000 _ _ _ _ _ kE _ _ _ [] .nil ?_ trivial rfl rfl (by kernel_rfl)
    unfold kE; simp only [sall_cons]
    exact ⟨st_inv.2 hinv, holdsF (by rw [e]; simp only [SE.eval, GE.eval]; omega), SAll.nil⟩
  · obtain ⟨e, hl, hc⟩ := hC 41 h3
    refine @lt_of_run ⟨σ⟩ _ (@noHook_ok ⟨σ⟩) _ (@noLp_ok ⟨σ⟩) 2000 _ _ _ _ _ kB _ _ _ [] .nil ?_ trivial rfl rfl (by kernel_rfl)
    unfold kB; simp only [sall_cons]
    exact ⟨st_inv.2 hinv, holdsT (by rw [e]; simp only [SE.eval, GE.eval]; omega), holdsF (by rw [e]; simp only [SE.eval]; omega), holdsF (by rw [hc]; simp only [SE.eval]; omega), holdsN (by rw [hc]; simp only [SE.eval]; omega), holdsE (by rw [hc]; rfl), SAll.nil⟩
  · obtain ⟨e, hl, hc⟩ := hC 93 h3
    refine @lt_of_run ⟨σ⟩ _ (@noHook_ok ⟨σ⟩) _ (@noLp_ok ⟨σ⟩) 2000 _ _ _ _ _ kC _ _ _ [] .nil ?_ trivial rfl rfl (by kernel_rfl)
    unfold kC; simp only [sall_cons]
    exact ⟨st_inv.2 hinv, holdsT (by rw [e]; simp only [SE.eval, GE.eval]; omega), holdsF (by rw [e]; simp only [SE.eval]; omega), holdsF (by rw [hc]; simp only [SE.eval]; omega), holdsN (by rw [hc]; simp only [SE.eval]; omega), holdsN (by rw [hc]; simp only [SE.eval]; omega), holdsN (by rw [hc]; simp only [SE.eval]; omega), holdsE (by rw [hc]; rfl), SAll.nil⟩
/-- what a text that begins with a bracket or a prefix says -/
structure FC [Gv] (k : Nat) (K : List Nat) (x : Int) : Prop where
  hA : deepR (Gv.σ 0) ((Gv.σ 1).headD 0) ((Gv.σ 2).headD 0)
  p0 : 0 ≤ (Gv.σ 1).headD 0
  o0 : 0 ≤ (Gv.σ 2).headD 0
  hL : (Gv.σ 0).length ≤ 2000
  hd : (Gv.σ 2).headD 0 + 1 + (K.length : Int) ≤ 200
  k0 : kz ((Gv.σ 0).drop ((Gv.σ 1).headD 0).toNat) = k :: K
  k1 : kz ((Gv.σ 0).drop (((Gv.σ 1).headD 0).toNat + (opn k).length)) = K
  next : deepR (Gv.σ 0) ((Gv.σ 1).headD 0 + ((opn k).length : Int)) ((Gv.σ 2).headD 0 + 1)
  ho : ∀ i (h : i < (opn k).length), (Gv.σ 0)[((Gv.σ 1).headD 0).toNat + i]? = some (opn k)[i]
  hc : ∀ i (h : i < (clo k).length), (Gv.σ 0)[((Gv.σ 1).headD 0).toNat + (opn k).length + (txt K).length + i]? = some (clo k)[i]
  hn : (Gv.σ 0)[((Gv.σ 1).headD 0).toNat + (opn k).length]? = some x
  hx : x = 49 ∨ x = 40 ∨ x = 91 ∨ x = 39 ∨ x = 44 ∨ x = 35
  hl : ((Gv.σ 1).headD 0).toNat + (opn k).length + (txt K).length + (clo k).length ≤ (Gv.σ 0).length
/-- or with its number -/
structure FB [Gv] : Prop where
  hA : deepR (Gv.σ 0) ((Gv.σ 1).headD 0) ((Gv.σ 2).headD 0)
  p0 : 0 ≤ (Gv.σ 1).headD 0
  o0 : 0 ≤ (Gv.σ 2).headD 0
  hL : (Gv.σ 0).length ≤ 2000
  k0 : kz ((Gv.σ 0).drop ((Gv.σ 1).headD 0).toNat) = []
  hc : (Gv.σ 0)[((Gv.σ 1).headD 0).toNat]? = some 49
  st : (Gv.σ 0).length = ((Gv.σ 1).headD 0).toNat + 1 ∨ (Gv.σ 0)[((Gv.σ 1).headD 0).toNat + 1]? = some 41 ∨ (Gv.σ 0)[((Gv.σ 1).headD 0).toNat + 1]? = some 93
theorem dI_inv {σ : Nat → List Int} : (∀ x ∈ [dI], x.holds σ) ↔ deepR (σ 0) ((σ 1).headD 0) ((σ 2).headD 0) :=
  ⟨fun h => d_inv.1 (h _ (List.mem_singleton.2 rfl)), fun h x hx => by rw [List.mem_singleton] at hx; subst hx; exact d_inv.2 h⟩
theorem FC.at [Gv] {k : Nat} {K : List Nat} {x : Int} (fc : FC k K x) {p o : Int} {R : List Int} (hp : p = (Gv.σ 1).headD 0) (ho : o = (Gv.σ 2).headD 0) (hR : Gv.σ 0 = R) :
    (∀ x ∈ [dI], x.holds Gv.σ) ∧ 0 ≤ p ∧ 0 ≤ o ∧ R.length ≤ 2000 ∧ o + 1 + (K.length : Int) ≤ 200 ∧ (∀ y : Int, y = p → kz (R.drop y.toNat) = k :: K) ∧ (∀ y : Int, y = p + ((opn k).length : Int) → kz (R.drop y.toNat) = K) ∧
    (∀ y z : Int, y = p + ((opn k).length : Int) → z = o + 1 → deepR R y z) ∧ (∀ i (h : i < (opn k).length) (y : Int), y = p + (i : Int) → R.getD y.toNat 0 = (opn k)[i]) ∧
    (∀ i (h : i < (clo k).length) (y : Int), y = p + ((opn k).length : Int) + ((txt K).length : Int) + (i : Int) → R.getD y.toNat 0 = (clo k)[i]) ∧
    (∀ y : Int, y = p + ((opn k).length : Int) → R.getD y.toNat 0 = x) ∧ (x = 49 ∨ x = 40 ∨ x = 91 ∨ x = 39 ∨ x = 44 ∨ x = 35) ∧ p + ((opn k).length : Int) + ((txt K).length : Int) + ((clo k).length : Int) ≤ (R.length : Int) := by
  subst hp ho hR
  have h0 := fc.p0
  refine ⟨dI_inv.2 fc.hA, h0, fc.o0, fc.hL, fc.hd, ?_, ?_, ?_, ?_, ?_, ?_, fc.hx, ?_⟩
  · rintro y rfl; exact fc.k0
  · rintro y rfl
    rw [show ((Gv.σ 1).headD 0 + ((opn k).length : Int)).toNat = ((Gv.σ 1).headD 0).toNat + (opn k).length by omega]; exact fc.k1
  · rintro y z rfl rfl; exact fc.next
  · rintro i hi y rfl
    rw [show ((Gv.σ 1).headD 0 + (i : Int)).toNat = ((Gv.σ 1).headD 0).toNat + i by omega]; exact getD_of (fc.ho i hi)
  · rintro i hi y rfl
    rw [show ((Gv.σ 1).headD 0 + ((opn k).length : Int) + ((txt K).length : Int) + (i : Int)).toNat = ((Gv.σ 1).headD 0).toNat + (opn k).length + (txt K).length + i by omega]; exact getD_of (fc.hc i hi)
  · rintro y rfl
    rw [show ((Gv.σ 1).headD 0 + ((opn k).length : Int)).toNat = ((Gv.σ 1).headD 0).toNat + (opn k).length by omega]; exact getD_of fc.hn
  · have := fc.hl; omega
theorem FB.at [Gv] (fc : FB) {p o : Int} {R : List Int} (hp : p = (Gv.σ 1).headD 0) (ho : o = (Gv.σ 2).headD 0) (hR : Gv.σ 0 = R) :
    (∀ x ∈ [dI], x.holds Gv.σ) ∧ 0 ≤ p ∧ 0 ≤ o ∧ R.length ≤ 2000 ∧ (∀ y : Int, y = p + 0 → R.getD y.toNat 0 = 49) ∧ (∀ y : Int, y = p → kz (R.drop y.toNat) = []) ∧ (∀ y : Int, y = p + 1 → stopR R y) ∧ p + 1 ≤ (R.length : Int) := by
  subst hp ho hR
  have h0 := fc.p0
  have hlt := (List.getElem?_eq_some_iff.1 fc.hc).1
  refine ⟨dI_inv.2 fc.hA, h0, fc.o0, fc.hL, ?_, ?_, ?_, by omega⟩
  · rintro y rfl; rw [Int.add_zero]; exact getD_of fc.hc
  · rintro y rfl; exact fc.k0
  · rintro y rfl
    refine ⟨by omega, fc.hL, ?_⟩
    rw [show ((Gv.σ 1).headD 0 + 1).toNat = ((Gv.σ 1).headD 0).toNat + 1 by omega]
    rcases fc.st with h | h | h
    · left; omega
    · exact .inr (.inl h)
    · exact .inr (.inr h)
end Go.Ev
