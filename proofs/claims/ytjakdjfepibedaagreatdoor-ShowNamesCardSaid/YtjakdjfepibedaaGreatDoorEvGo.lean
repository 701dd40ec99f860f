import Derived.Test.YtjakdjfepibedaaGreatDoorEvCf
import GoSem.ClaimChange
set_option linter.all false
namespace Go.Ev
/- From a closed run of the evaluator to a call of the program. -/
theorem pp_eq : PP = Go.Proofs.Tryz.prog := by unfold PP; rfl
theorem K.of_num' {x : Nat} (h : x < 65536) : (K.of x).num = x := by
  show ((((I.of (x / 4096 % 16)).num * 16 + (I.of (x / 256 % 16)).num) * 16 + (I.of (x / 16 % 16)).num) * 16 + (I.of (x % 16)).num) = x
  rw [I.of_num _ (by omega), I.of_num _ (by omega), I.of_num _ (by omega), I.of_num _ (by omega)]
  omega
noncomputable def szOf (k : K) : List LE → Nat
  | [] => 0
  | .mk g cs :: l => if K.of g = k then cs.length else szOf k l
noncomputable def ρ00 : Env := { blk := fun k => if k.num ≤ 255 then some k.num else none, sz := fun k => szOf k laidL }
theorem grel00 : GRel ρ00 := by
  intro g hg
  show (if (K.of g).num ≤ 255 then some (K.of g).num else none) = some g
  rw [K.of_num' (by omega), if_pos hg]
theorem clean00 : Clean ρ00 wS := by
  intro k hk
  have hk : (K.of 256).num ≤ k.num := hk
  rw [K.of_num' (by omega)] at hk
  show (if k.num ≤ 255 then some k.num else none) = none
  rw [if_neg (by omega)]
theorem lay_get (k : K) : ∀ l, hget k (layH l) ≠ .none → ∃ g cs, LE.mk g cs ∈ l ∧ k = K.of g ∧ hget k (layH l) = .ro (Nat.succ g) (llen cs) (cfill cs 0 (cempty (llen cs))) ∧ szOf k l = cs.length
  | [], h => absurd (hget_none k) h
  | .mk g cs :: l, h => by
    simp only [layH] at h ⊢
    by_cases e : k = K.of g
    · subst e
      exact ⟨g, cs, by simp, rfl, by rw [hget_hset_same], by simp [szOf]⟩
    · rw [hget_hset_ne e] at h ⊢
      obtain ⟨g', cs', h1, h2, h3, h4⟩ := lay_get k l h
      refine ⟨g', cs', List.mem_cons_of_mem _ h1, h2, h3, ?_⟩
      simp only [szOf]
      rw [if_neg (fun x => e x.symm), h4]
theorem fine_get : ∀ l, laidFine l = true → ∀ g cs, LE.mk g cs ∈ l → g ≤ 255 ∧ frees cs = true ∧ cs.length ≤ 65536
  | [], _, _, _, h => by cases h
  | .mk g cs :: l, h, g', cs', hm => by
    simp only [laidFine] at h
    obtain ⟨h1, h2⟩ := bc_and.1 h
    simp only [Bool.and_eq_true] at h1
    obtain ⟨⟨p1, p2⟩, p3⟩ := h1
    rcases List.mem_cons.1 hm with e | e
    · injection e with e1 e2
      subst e1 e2
      rw [llen_eq] at p3
      exact ⟨Nat.le_of_ble_eq_true p1, p2, Nat.le_of_ble_eq_true p3⟩
    · exact fine_get l h2 g' cs' e
theorem laid_fine : laidFine laidL = true := by kernel_rfl
theorem blk00 {k : K} {c : Nat} (h : ρ00 k = some c) : c = k.num := by
  have h : (if k.num ≤ 255 then some k.num else none) = some c := h
  split at h
  · injection h with h; exact h.symm
  · cases h
theorem wrel00 {w : World} (hl : LaidIn laidL w) : WRel ρ00 wS w := by
  refine ⟨?_, ?_, ?_⟩
  · intro k l hk hl' e
    obtain ⟨g, cs, h1, h2, h3, h4⟩ := lay_get k laidL hk
    obtain ⟨g', cs', h1', h2', h3', h4'⟩ := lay_get l laidL hl'
    rw [h2, h2', grel00 g (fine_get _ laid_fine g cs h1).1, grel00 g' (fine_get _ laid_fine g' cs' h1').1] at e
    injection e with e
    rw [h2, h2', e]
  · intro k hk
    obtain ⟨g, cs, h1, h2, h3, h4⟩ := lay_get k laidL hk
    obtain ⟨f1, f2, f3⟩ := fine_get _ laid_fine g cs h1
    obtain ⟨arr, t, fz, q1, q2⟩ := hl g cs h1
    refine ⟨g, by rw [h2]; exact grel00 g f1, ?_⟩
    show ORel ρ00 (hget k (layH laidL)) _
    have hlen := VRels.length _ _ (q2 ρ00)
    rw [h3, q1, llen_eq]
    refine ⟨arr, t, fz, rfl, by simpa using hlen, by rw [ccap_cfill]; exact ccap_cempty _ f3, fun i hi => ?_, fun g' cs' e' hm' ρ' => by
      obtain rfl : g' = g := by have : g + 1 = g' + 1 := e'; omega
      obtain ⟨arr2, t2, fz2, z1, z2⟩ := hl g' cs' hm'
      rw [q1] at z1; injection z1 with z1; injection z1 with z1; subst z1; exact z2 ρ'⟩
    obtain ⟨v, r1, r2⟩ := cells_new (q2 ρ00) f3 i hi
    exact ⟨v, by simpa using r1, r2⟩
  · intro k c arr t fz hk hc hx
    obtain ⟨g, cs, h1, h2, h3, h4⟩ := lay_get k laidL hk
    obtain ⟨f1, f2, f3⟩ := fine_get _ laid_fine g cs h1
    obtain ⟨arr', t', fz', q1, q2⟩ := hl g cs h1
    rw [h2, grel00 g f1] at hc
    injection hc with hc
    subst hc
    rw [q1] at hx
    injection hx with hx
    injection hx with hx
    subst hx
    have hlen := VRels.length _ _ (q2 ρ00)
    show _ = szOf k laidL
    rw [h4]
    simpa using hlen
theorem kept_of_adv {ρ ρ' : Env} {a a' : W} {w w' : World} (h : Adv ρ a w ρ' a' w') (hn : ∀ c, ¬ Own ρ a c) (may : MemPlace → Prop) : w.keptBut w' may := by
  refine ⟨h.os, h.output, fun i hi => ?_⟩
  rw [h.frame i hi (hn i)]
  cases w.heap[i]? with
  | none => rfl
  | some o => cases o <;> first | rfl | exact ⟨rfl, rfl, rfl, fun _ _ => rfl⟩ | exact .inr ⟨rfl, rfl⟩
theorem kept_of_adv' {ρ ρ' : Env} {a a' : W} {w w' : World} (h : Adv ρ a w ρ' a' w') (hn : ∀ c, ¬ Own ρ a c) : KeptW w w' :=
  ⟨h.size, fun c hc => h.frame c hc (hn c), h.os, h.tape, h.output⟩
theorem kept_but {w w' : World} (h : KeptW w w') (may : MemPlace → Prop) : w.keptBut w' may := by
  refine ⟨h.os, h.output, fun i hi => ?_⟩
  rw [h.heap i hi]
  cases w.heap[i]? with
  | none => rfl
  | some o => cases o <;> first | rfl | exact ⟨rfl, rfl, rfl, fun _ _ => rfl⟩ | exact .inr ⟨rfl, rfl⟩
theorem own00 (c : Nat) : ¬ Own ρ00 wS c := by
  rintro ⟨k, hk, hr, _⟩
  obtain ⟨g, cs, h1, h2, h3, h4⟩ := lay_get k laidL hk
  have hr : (hget k (layH laidL)).isRo = false := hr
  rw [h3] at hr
  cases hr
theorem noHook_ok : HookOk noHook := fun _ _ _ _ h => by cases h
theorem known_ok : ∀ (l : List HE), (∀ f vs v, HE.mk f vs v ∈ l → HookFact f vs v) → ∀ f vs v, known l f vs = some v → HookFact f vs v
  | [], _ => fun _ _ _ h => by cases h
  | .mk g us u :: l, h => by
    have ih := known_ok l fun f vs v hm => h f vs v (List.mem_cons_of_mem _ hm)
    intro f vs v hv
    simp only [known, bc_eq] at hv
    split at hv
    · rename_i hf
      split at hv
      · rename_i hs
        injection hv with hv
        subst hv
        rw [Nat.eq_of_beq_eq_true hf, ← sameL_eq _ _ hs]
        exact h g us u (by simp)
      · exact ih f vs v hv
    · exact ih f vs v hv
theorem hooks_ok (l : List HE) (h : ∀ f vs v, HE.mk f vs v ∈ l → HookFact f vs v) : HookOk (hooks l) := by
  intro f vs aw r hr _ ρ args w hg hw hc hv
  unfold hooks hookA at hr
  split at hr
  · rename_i v hk
    rw [bc_eq] at hr
    split at hr
    · rename_i hl
      injection hr with hr
      subst hr
      refine Calls.mono (known_ok l h f vs v hk ρ args w (laid_ok hg hw hl) hv) fun e w' hp => ?_
      obtain ⟨v', rfl, h1, h2⟩ := hp
      exact ⟨v', ρ, rfl, h1 ρ, adv_kept hw h2⟩
    · cases hr
  · cases hr
theorem retV_eq {r : CR} {v : AV} (h : retV r v = true) : ∃ aw, r = .ret v aw := by
  unfold retV at h
  split at h
  · rename_i v' aw; rw [same2_eq _ _ h]; exact ⟨aw, rfl⟩
  · cases h
/-- a closed run: what it says of the call, in whatever memory -/
theorem fact_of_run {H : Hook} (hH : HookOk H) {n f : Nat} {vs : List AV} {v : AV} (h1 : frees vs = true) (h2 : free v = true) (h : retV (enter (run H n) f vs wS) v = true) : HookFact f vs v := by
  intro ρ args w hl hv
  obtain ⟨aw, h⟩ := retV_eq h
  have := enter_ok (run_ok hH n) grel00 (wrel00 hl) clean00 (f := f) (frees_rel h1 hv) (by rw [h]; trivial)
  rw [h] at this
  refine Calls.mono this fun e w' hp => ?_
  obtain ⟨v', ρ', rfl, hv', hA⟩ := hp
  exact ⟨v', rfl, fun ρ'' => free_rel h2 hv', kept_of_adv' hA own00⟩
/-- a law without arguments -/
theorem calls_true {f : Nat} (h : HookFact f [] (.bool true)) (w : World) (hl : LaidIn laidL w) :
    Calls Go.Proofs.Tryz.prog f #[] w fun e w' => e = .returned (.bool true) ∧ ∀ may, w.keptBut w' may := by
  have := h ρ00 #[] w hl (by simp only [VRels])
  rw [pp_eq] at this
  refine Calls.mono this fun e w' hp => ?_
  obtain ⟨v', rfl, hv, hA⟩ := hp
  have hv := hv ρ00
  simp only [VRel] at hv
  subst hv
  exact ⟨rfl, kept_but hA⟩
end Go.Ev
