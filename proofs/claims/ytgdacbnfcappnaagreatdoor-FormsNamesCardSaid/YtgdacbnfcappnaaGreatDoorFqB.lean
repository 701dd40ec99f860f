import Derived.Test.YtgdacbnfcappnaaGreatDoorFqA
import Derived.Laws.RangeString
set_option maxRecDepth 100000
set_option linter.all false
namespace Go.Ev
/- show.quoted of a string of plain characters: the loop, for all strings. -/
section
variable {σ : Nat → List Int}
theorem wrapNear (k : IntKind) (hk : k = .i64 ∨ k = .u32 ∨ k = .u8) (x : Int) (h : 0 ≤ x ∧ x < 128) : k.wrap (x + 0) = x := by
  rcases hk with rfl | rfl | rfl <;> simp only [IntKind.wrap, IntKind.bits, IntKind.signed] <;> simp <;> omega
open Classical in
theorem q_inv : (SA.holds σ qI) ↔ qInv (σ 0) ((σ 1).headD 0) (σ 3) := by
  show decide (phiI 1 [σ 0, [(σ 1).headD 0], σ 3] = 1) = true ↔ _
  rw [decide_eq_true_iff]
  show (if qInv (σ 0) ((σ 1).headD 0) (σ 3) then (1 : Int) else 0) = 1 ↔ _
  split
  · rename_i h; exact ⟨fun _ => h, fun _ => rfl⟩
  · rename_i h; exact ⟨fun e => absurd e (by decide), fun e => absurd e h⟩
theorem q_char (h : qInv (σ 0) ((σ 1).headD 0) (σ 3)) (hp : (σ 1).headD 0 < ((σ 0).length : Int)) : ∃ x : Int, qPlain x ∧ (σ 0)[((σ 1).headD 0).toNat]? = some x ∧ (SE.dr (.s 0) (.v 1)).eval σ = x ∧ (SE.dw (.s 0) (.v 1)).eval σ = 1 := by
  obtain ⟨h1, h2, h3, h4, h5⟩ := h
  have hi : ((σ 1).headD 0).toNat < (σ 0).length := by omega
  have hx := h1 _ (List.getElem_mem hi)
  have hi' : ((σ 1).headD 0).toNat < (bytesI (σ 0)).size := by rw [bytesI_size]; exact hi
  have hb : (bytesI (σ 0))[((σ 1).headD 0).toNat]'hi' = UInt8.ofNat ((σ 0)[((σ 1).headD 0).toNat]).toNat := by
    have := bytesI_get (l := σ 0) _ hi
    show (bytesI (σ 0)).data[((σ 1).headD 0).toNat]'hi' = _
    rw [Array.getElem_eq_iff]; exact this
  have hn : ((bytesI (σ 0))[((σ 1).headD 0).toNat]'hi').toNat = ((σ 0)[((σ 1).headD 0).toNat]).toNat := by
    rw [hb]
    have := hx.1; have := hx.2.1
    rw [UInt8.toNat_ofNat']
    exact Nat.mod_eq_of_lt (by omega)
  have hdec := decode_ascii (bytesI (σ 0)) _ hi' (by rw [hn]; have := hx.1; have := hx.2.1; omega)
  refine ⟨_, hx, List.getElem?_eq_getElem hi, ?_, ?_⟩
  · simp only [SE.eval, GE.eval, hdec, hn]
    have := hx.1; omega
  · simp only [SE.eval, GE.eval, hdec]; rfl
theorem q_next {x : Int} (h : qInv (σ 0) ((σ 1).headD 0) (σ 3)) (hp : (σ 1).headD 0 < ((σ 0).length : Int)) (hx : qPlain x) : qInv (σ 0) ((σ 1).headD 0 + 1) (σ 3 ++ [x]) := by
  obtain ⟨h1, h2, h3, h4, h5⟩ := h
  exact ⟨h1, h2, by omega, by omega, by rw [List.length_append, List.length_singleton]; omega⟩
theorem sall_cons {A : List SA} {x : SA} : SAll σ (x :: A) ↔ x.holds σ ∧ SAll σ A := by
  constructor
  · exact fun h => ⟨h _ (by simp), fun y hy => h y (List.mem_cons_of_mem _ hy)⟩
  · rintro ⟨h1, h2⟩ y hy
    rcases List.mem_cons.1 hy with rfl | hy
    · exact h1
    · exact h2 y hy
theorem holdsT {a b : SE} (h : a.eval σ < b.eval σ) : (SA.mk true a b true).holds σ := decide_eq_true h
theorem holdsF {a b : SE} (h : ¬ a.eval σ < b.eval σ) : (SA.mk true a b false).holds σ := decide_eq_false h
theorem holdsN {a b : SE} (h : ¬ a.eval σ = b.eval σ) : (SA.mk false a b false).holds σ := decide_eq_false h
open Classical in
theorem qA_ok (h : qInv (σ 0) ((σ 1).headD 0) (σ 3)) (hp : (σ 1).headD 0 < ((σ 0).length : Int)) : SAll σ qA := by
  obtain ⟨x, hx, _, hd, hw⟩ := q_char h hp
  have hx1 := hx.1; have hx2 := hx.2.1
  have hinv := h
  obtain ⟨h1, h2, h3, h4, h5⟩ := h
  have hv : (SE.v 1).eval σ = (σ 1).headD 0 := rfl
  have hP : qP.eval σ = (σ 1).headD 0 + 1 := by show (σ 1).headD 0 + (SE.dw (.s 0) (.v 1)).eval σ = _; rw [hw]
  unfold qA
  simp only [sall_cons]
  refine ⟨q_inv.2 hinv, holdsT hp, holdsN ?_, holdsN ?_, holdsF ?_, holdsF ?_, ?_, holdsT ?_, holdsF ?_, SAll.nil⟩
  · simp only [qD, SE.eval, binE] at hd ⊢; rw [hd, wrapNear .i64 (.inl rfl) x ⟨hx1, hx2⟩]; exact hx.2.2.1
  · simp only [qD, SE.eval, binE] at hd ⊢; rw [hd, wrapNear .i64 (.inl rfl) x ⟨hx1, hx2⟩]; exact hx.2.2.2
  · simp only [qD, SE.eval, binE] at hd ⊢; rw [hd, wrapNear .u32 (.inr (.inl rfl)) x ⟨hx1, hx2⟩]; omega
  · simp only [SE.eval, binE, GE.eval]; omega
  · have hE : qE.eval σ = x := by simp only [qE, qD, SE.eval, binE] at hd ⊢; rw [hd, wrapNear .u8 (.inr (.inr rfl)) x ⟨hx1, hx2⟩]
    show decide (phiI 1 [σ 0, [qP.eval σ], σ 3 ++ [qE.eval σ]] = 1) = true
    rw [hP, hE, decide_eq_true_iff]
    show (if qInv (σ 0) ((σ 1).headD 0 + 1) (σ 3 ++ [x]) then (1 : Int) else 0) = 1
    rw [if_pos (q_next hinv hp hx)]
  · simp only [qM, qM', SE.eval, binE, hP, GE.eval]; omega
  · simp only [qM', SE.eval, binE, hP, GE.eval]; omega
end
noncomputable section
def qT1 : GE := .cat (.cat (.s 3) (.one qE)) (.cut (.s 0) qP (.len (.s 0)))
def qN1 : SE := .bin 6 .i64 (.bin 6 .i64 (.len (.s 3)) (.c 1)) (.len (.cut (.s 0) qP (.len (.s 0))))
def qE1 : EqL := .g qT1 qR (.i qN1 qN .nil)
def qE2 : EqL := .g (.s 3) qR (.i (.len (.s 3)) qN .nil)
end
section
variable [Gv]
theorem q_one (hL : LtFact qLt) (h : qInv (Gv.σ 0) ((Gv.σ 1).headD 0) (Gv.σ 3)) : LFactT 93 7 qUs 259 qLi (.x 0 qUo) 260 qLo := by
  have hl : ∀ t ∈ [qLt], LtFact t := by intro t ht; rw [List.mem_singleton] at ht; subst ht; exact hL
  by_cases hp : (Gv.σ 1).headD 0 < ((Gv.σ 0).length : Int)
  · refine lt_of_run (n := 2000) (A := qA) (T := [(261, 259)]) (E := qE1) noHook_ok (lpT_ok [qLt] hl) (qA_ok h hp) ?_ rfl rfl (by kernel_rfl)
    obtain ⟨x, hx, hget, hd, hw⟩ := q_char h hp
    have hx1 := hx.1; have hx2 := hx.2.1
    obtain ⟨h1, h2, h3, h4, h5⟩ := h
    have hP : qP.eval Gv.σ = (Gv.σ 1).headD 0 + 1 := by show (Gv.σ 1).headD 0 + (SE.dw (.s 0) (.v 1)).eval Gv.σ = _; rw [hw]
    have hE : qE.eval Gv.σ = x := by simp only [qE, qD, SE.eval, binE] at hd ⊢; rw [hd, wrapNear .u8 (.inr (.inr rfl)) x ⟨hx1, hx2⟩]
    have key : qT1.eval Gv.σ = qR.eval Gv.σ := by
      simp only [qT1, qR, qC, GE.eval, hE, SE.eval, hP, Int.toNat_natCast, List.take_length, List.append_assoc, List.singleton_append]
      congr 1
      have hi : ((Gv.σ 1).headD 0).toNat < (Gv.σ 0).length := by omega
      rw [List.drop_eq_getElem_cons hi, show ((Gv.σ 1).headD 0 + 1).toNat = ((Gv.σ 1).headD 0).toNat + 1 by omega]
      rw [List.getElem?_eq_getElem hi] at hget
      injection hget with hget
      rw [hget]
    refine ⟨key, ?_, trivial⟩
    simp only [qN1, qN, qC, SE.eval, binE, GE.eval, hP, List.length_drop, List.length_take, Int.toNat_natCast]
    omega
  · have hB : SAll Gv.σ qB := by
      unfold qB
      simp only [sall_cons]
      exact ⟨q_inv.2 h, holdsF hp, SAll.nil⟩
    refine lt_of_run (n := 2000) (A := qB) (T := [(258, 259)]) (E := qE2) noHook_ok (lpT_ok [qLt] hl) hB ?_ rfl rfl (by kernel_rfl)
    obtain ⟨h1, h2, h3, h4, h5⟩ := h
    have e : ((Gv.σ 0).take (Gv.σ 0).length).drop ((Gv.σ 1).headD 0).toNat = [] := List.drop_eq_nil_of_le (by rw [List.length_take]; omega)
    refine ⟨?_, ?_, trivial⟩
    · simp only [qR, qC, GE.eval, SE.eval, Int.toNat_natCast, e, List.append_nil]
    · show ((Gv.σ 3).length : Int) = ((Gv.σ 3).length : Int) + (((Gv.σ 0).take ((Gv.σ 0).length : Int).toNat).drop ((Gv.σ 1).headD 0).toNat).length
      rw [Int.toNat_natCast, e]; rfl
end
/-- the loop, from every state -/
theorem q_all : ∀ (B : Nat) (σ : Nat → List Int), qInv (σ 0) ((σ 1).headD 0) (σ 3) → qM.eval σ < (B : Int) → @LFactT ⟨σ⟩ 93 7 qUs 259 qLi (.x 0 qUo) 260 qLo
  | 0, σ, h, hb => by
    obtain ⟨h1, h2, h3, h4, h5⟩ := h
    simp only [qM, SE.eval, binE, GE.eval] at hb
    omega
  | B + 1, σ, h, hb => by
    refine @q_one ⟨σ⟩ ?_ h
    intro σ' _ hA hbd
    have hA := q_inv.1 (hA _ (List.mem_singleton.2 rfl))
    refine q_all B σ' hA ?_
    have hbd : 0 ≤ qM.eval σ' ∧ qM.eval σ' < qM.eval σ := hbd
    omega
end Go.Ev
