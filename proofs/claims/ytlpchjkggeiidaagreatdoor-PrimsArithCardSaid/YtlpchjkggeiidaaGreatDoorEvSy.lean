import Derived.Test.YtlpchjkggeiidaaGreatDoorEvGo
set_option maxRecDepth 100000
set_option linter.all false
namespace Go.Ev
/- Calls with integers that are not known: from runs to facts, and facts as hooks. -/
section
noncomputable section
def encZ (z : Int) : Nat := if 0 ≤ z then 2 * z.toNat else 2 * (-z).toNat - 1
def ρσ (σ : Nat → Int) : Env := { blk := ρ00.blk, sz := fun k => if 240 ≤ k.num ∧ k.num < 255 then encZ (σ (k.num - 240)) else szOf k laidL }
def simp1 : AV → Bool
  | .sym _ _ _ => true
  | v => free v
def simpL : List AV → Bool
  | [] => true
  | v :: l => bc (simp1 v) (simpL l) false
def simp2 : AV → Bool
  | .tuple l => simpL l
  | .agg l => simpL l
  | v => simp1 v
def hasSym : List AV → Bool
  | [] => false
  | .sym _ _ _ :: _ => true
  | _ :: l => hasSym l
def laidLow : List LE → Bool
  | [] => true
  | .mk g _ :: l => bc (Nat.blt g 240) (laidLow l) false
end
end
theorem dec_enc (z : Int) : decZ (encZ z) = z := by
  unfold decZ encZ
  by_cases h : 0 ≤ z
  · rw [if_pos h, if_pos (by omega)]; omega
  · rw [if_neg h, if_neg (by omega)]; omega
theorem vars_σ (σ : Nat → Int) : VarsIn (ρσ σ) := by
  intro i hi
  refine ⟨240 + i, ?_⟩
  show (if (K.of (240 + i)).num ≤ 255 then some (K.of (240 + i)).num else none) = _
  rw [K.of_num' (by omega), if_pos (by omega)]
theorem val_σ (σ : Nat → Int) (i : Nat) (hi : i < 15) : (ρσ σ).val i = σ i := by
  unfold Env.val
  rw [if_pos hi]
  show decZ (if 240 ≤ (K.of (240 + i)).num ∧ (K.of (240 + i)).num < 255 then encZ (σ ((K.of (240 + i)).num - 240)) else _) = _
  rw [K.of_num' (by omega), if_pos (by omega), dec_enc]
  congr 1; omega
theorem val_σ' (ρ : Env) : (ρσ ρ.val).val = ρ.val := by
  funext i
  by_cases hi : i < 15
  · exact val_σ _ i hi
  · unfold Env.val; rw [if_neg hi, if_neg hi]
theorem simp1_rel {v : AV} (h : simp1 v = true) {ρ ρ' : Env} (hV : VarsIn ρ → VarsIn ρ') (he : ρ'.val = ρ.val) {x : Value} (hv : VRel ρ v x) : VRel ρ' v x := by
  cases v <;> first | (cases h; done) | (simp only [VRel] at hv ⊢; exact hv) | (simp only [VRel] at hv ⊢; rw [he]; exact ⟨hV hv.1, hv.2⟩)
theorem simpL_rel {ρ ρ' : Env} (hV : VarsIn ρ → VarsIn ρ') (he : ρ'.val = ρ.val) : ∀ {l : List AV} {xs : List Value}, simpL l = true → VRels ρ l xs → VRels ρ' l xs
  | [], _, _, hv => by simp only [VRels] at hv ⊢; exact hv
  | v :: l, _, h, hv => by
    simp only [simpL] at h
    obtain ⟨h1, h2⟩ := bc_and.1 h
    simp only [VRels] at hv ⊢
    obtain ⟨x, xs, e, q1, q2⟩ := hv
    exact ⟨x, xs, e, simp1_rel h1 hV he q1, simpL_rel hV he h2 q2⟩
theorem simp2_rel {v : AV} (h : simp2 v = true) {ρ ρ' : Env} (hV : VarsIn ρ → VarsIn ρ') (he : ρ'.val = ρ.val) {x : Value} (hv : VRel ρ v x) : VRel ρ' v x := by
  unfold simp2 at h
  split at h
  · simp only [VRel] at hv ⊢; obtain ⟨ys, e, q⟩ := hv; exact ⟨ys, e, simpL_rel hV he h q⟩
  · simp only [VRel] at hv ⊢; obtain ⟨ys, e, q⟩ := hv; exact ⟨ys, e, simpL_rel hV he h q⟩
  · exact simp1_rel h hV he hv
theorem hasSym_vars {ρ : Env} : ∀ {l : List AV} {xs : List Value}, hasSym l = true → VRels ρ l xs → VarsIn ρ
  | [], _, h, _ => by cases h
  | v :: l, _, h, hv => by
    simp only [VRels] at hv
    obtain ⟨x, xs, e, q1, q2⟩ := hv
    unfold hasSym at h
    split at h
    · cases h
    · rename_i he
      injection he with he _
      subst he
      simp only [VRel] at q1
      exact q1.1
    · rename_i he
      injection he with _ he
      subst he
      exact hasSym_vars h q2
theorem low_get : ∀ l, laidLow l = true → ∀ g cs, LE.mk g cs ∈ l → g < 240
  | [], _, _, _, h => by cases h
  | .mk g cs :: l, h, g', cs', hm => by
    simp only [laidLow] at h
    obtain ⟨h1, h2⟩ := bc_and.1 h
    rcases List.mem_cons.1 hm with e | e
    · injection e with e1 e2; subst e1 e2; exact of_decide_eq_true (by simpa [Nat.blt_eq] using h1)
    · exact low_get l h2 g' cs' e
theorem wrelσ (hlow : laidLow laidL = true) {σ : Nat → Int} {w : World} (hl : LaidIn laidL w) : WRel (ρσ σ) wS w := by
  refine ⟨?_, ?_, ?_⟩
  · intro k l hk hl' e
    exact (wrel00 hl).inj k l hk hl' e
  · intro k hk
    obtain ⟨g, cs, h1, h2, h3, h4⟩ := lay_get k laidL hk
    obtain ⟨f1, f2, f3⟩ := fine_get _ laid_fine g cs h1
    obtain ⟨arr, t, fz, q1, q2⟩ := hl g cs h1
    refine ⟨g, by rw [h2]; exact grel00 g f1, ?_⟩
    show ORel (ρσ σ) (hget k (layH laidL)) _
    have hlen := VRels.length _ _ (q2 ρ00)
    rw [h3, q1, llen_eq]
    refine ⟨arr, t, fz, rfl, by simpa using hlen, by rw [ccap_cfill]; exact ccap_cempty _ f3, fun i hi => ?_⟩
    obtain ⟨v, r1, r2⟩ := cells_new (q2 (ρσ σ)) f3 i hi
    exact ⟨v, by simpa using r1, r2⟩
  · intro k c arr t fz hk hc hx
    have := (wrel00 hl).len k c arr t fz hk hc hx
    obtain ⟨g, cs, h1, h2, h3, h4⟩ := lay_get k laidL hk
    have hg := low_get _ hlow g cs h1
    rw [this]
    show szOf k laidL = if 240 ≤ k.num ∧ k.num < 255 then _ else szOf k laidL
    rw [if_neg]
    rw [h2, K.of_num' (by omega)]
    omega
/-- a call whose arguments may be unknown integers -/
def SymFact (f : FuncId) (vs : List AV) (v : AV) : Prop := ∀ (σ : Nat → Int) (args : Array Value) (w : World), LaidIn laidL w → VRels (ρσ σ) vs args.toList →
  Calls PP f args w fun e w' => ∃ v', e = .returned v' ∧ VRel (ρσ σ) v v' ∧ KeptW w w'
theorem symFact_of_run (hlow : laidLow laidL = true) {H : Hook} (hH : HookOk H) {n f : Nat} {vs : List AV} {v : AV} (h2 : simp2 v = true) (h : retV (enter (run H n) f vs wS) v = true) : SymFact f vs v := by
  intro σ args w hl hv
  obtain ⟨aw, h⟩ := retV_eq h
  have := enter_ok (run_ok hH n) (ρ := ρσ σ) (fun g hg => grel00 g hg) (wrelσ hlow hl) (fun k hk => clean00 k hk) (f := f) hv (by rw [h]; trivial)
  rw [h] at this
  refine Calls.mono this fun e w' hp => ?_
  obtain ⟨v', ρ', rfl, hv', hA⟩ := hp
  obtain ⟨m1, m2⟩ := val_mono hA.le (vars_σ σ)
  refine ⟨v', rfl, simp2_rel h2 (fun _ => vars_σ σ) m2.symm hv', kept_of_adv' hA fun c hc => ?_⟩
  obtain ⟨k, hk, hr, _⟩ := hc
  obtain ⟨g, cs, h1, h2, h3, h4⟩ := lay_get k laidL hk
  have hr : (hget k (layH laidL)).isRo = false := hr
  rw [h3] at hr
  cases hr
noncomputable def hooksS (l : List HE) (f : FuncId) (vs : List AV) (w : W) : Option CR := bc (hasSym vs && simpL vs) (hooks l f vs w) none
theorem hooksS_ok (l : List HE) (h : ∀ f vs v, HE.mk f vs v ∈ l → SymFact f vs v ∧ simp2 v = true) : HookOk (hooksS l) := by
  intro f vs aw r hr _ ρ args w hg hw hc hv
  unfold hooksS at hr
  rw [bc_eq] at hr
  split at hr
  · rename_i hs
    simp only [Bool.and_eq_true] at hs
    unfold hooks hookA at hr
    split at hr
    · rename_i v hk
      rw [bc_eq] at hr
      split at hr
      · rename_i hl
        injection hr with hr
        subst hr
        have key : ∀ (l : List HE), (∀ f vs v, HE.mk f vs v ∈ l → SymFact f vs v ∧ simp2 v = true) → ∀ v, known l f vs = some v → SymFact f vs v ∧ simp2 v = true := by
          intro l
          induction l with
          | nil => intro _ v h; cases h
          | cons x l ih =>
            obtain ⟨g, us, u⟩ := x
            intro h v hv
            simp only [known, bc_eq] at hv
            split at hv
            · rename_i hf
              split at hv
              · rename_i hs
                injection hv with hv
                subst hv
                rw [Nat.eq_of_beq_eq_true hf, ← sameL_eq _ _ hs]
                exact h g us u (by simp)
              · exact ih (fun f vs v hm => h f vs v (List.mem_cons_of_mem _ hm)) v hv
            · exact ih (fun f vs v hm => h f vs v (List.mem_cons_of_mem _ hm)) v hv
        obtain ⟨k1, k2⟩ := key l h v hk
        have hV := hasSym_vars hs.1 hv
        refine Calls.mono (k1 ρ.val args w (laid_ok hg hw _ hl) (simpL_rel (fun _ => vars_σ _) (val_σ' ρ) hs.2 hv)) fun e w' hp => ?_
        obtain ⟨v', rfl, h1, h2⟩ := hp
        exact ⟨v', ρ, rfl, simp2_rel k2 (fun _ => hV) (val_σ' ρ).symm h1, adv_kept hw h2⟩
      · cases hr
    · cases hr
  · cases hr
/- facts used under more decided comparisons than they need -/
section
noncomputable section
def saOne : SA → SA → Bool
  | .mk lt a b r, .mk lt' a' b' r' => bc (sameB lt lt') (bc (seEq a a') (bc (seEq b b') (sameB r r') false) false) false
def saMem (x : SA) : List SA → Bool
  | [] => false
  | y :: l => bc (saOne x y) true (saMem x l)
/-- all of the one in the other -/
def saSub : List SA → List SA → Bool
  | [], _ => true
  | x :: l, m => bc (saMem x m) (saSub l m) false
/-- what is given fits what is wanted -/
def fitA : AV → AV → Bool
  | .sym k e A, .sym k' e' A' => bc (kbeq k k') (bc (seEq e e') (saSub A' A) false) false
  | a, b => bc (free a) (same0 a b) false
def fitL : List AV → List AV → Bool
  | [], [] => true
  | a :: l, b :: m => bc (fitA a b) (fitL l m) false
  | _, _ => false
def firstA : List AV → List SA
  | [] => []
  | .sym _ _ A :: _ => A
  | _ :: l => firstA l
def setA1 (A : List SA) : AV → AV
  | .sym k e _ => .sym k e A
  | v => v
def setAL (A : List SA) : List AV → List AV
  | [] => []
  | v :: l => setA1 A v :: setAL A l
def setA (A : List SA) : AV → AV
  | .tuple l => .tuple (setAL A l)
  | v => setA1 A v
def hooksT (l : List HE) (f : FuncId) (vs : List AV) (w : W) : Option CR := match l with
  | [] => none
  | .mk g us u :: l => bc (Nat.beq f g) (bc (hasSym vs && fitL vs us) (bc (laidIs laidL w) (some (.ret (setA (firstA vs) u) w)) none) (hooksT l f vs w)) (hooksT l f vs w)
end
end
theorem saOne_eq {x y : SA} (h : saOne x y = true) : x = y := by
  obtain ⟨lt, a, b, r⟩ := x
  obtain ⟨lt', a', b', r'⟩ := y
  simp only [saOne] at h
  obtain ⟨h1, h⟩ := bc_and.1 h
  obtain ⟨h2, h⟩ := bc_and.1 h
  obtain ⟨h3, h4⟩ := bc_and.1 h
  rw [sameB_eq h1, seEq_eq _ _ h2, seEq_eq _ _ h3, sameB_eq h4]
theorem saMem_mem {x : SA} : ∀ {l : List SA}, saMem x l = true → x ∈ l
  | [], h => by cases h
  | y :: l, h => by
    simp only [saMem, bc_eq] at h
    split at h
    · rename_i h1; rw [saOne_eq h1]; simp
    · exact List.mem_cons_of_mem _ (saMem_mem h)
theorem saSub_all {σ : Nat → Int} {m : List SA} (hm : SAll σ m) : ∀ {l : List SA}, saSub l m = true → SAll σ l
  | [], _ => fun _ h => by cases h
  | x :: l, h => by
    simp only [saSub] at h
    obtain ⟨h1, h2⟩ := bc_and.1 h
    intro y hy
    rcases List.mem_cons.1 hy with e | e
    · rw [e]; exact hm _ (saMem_mem h1)
    · exact saSub_all hm h2 y e
theorem fitA_rel {ρ : Env} {a b : AV} (h : fitA a b = true) {x : Value} (hx : VRel ρ a x) : VRel ρ b x := by
  unfold fitA at h
  split at h
  · obtain ⟨h1, h⟩ := bc_and.1 h
    obtain ⟨h2, h3⟩ := bc_and.1 h
    simp only [VRel] at hx ⊢
    rw [← (kbeq_iff _ _).1 h1, ← seEq_eq _ _ h2]
    exact ⟨hx.1, saSub_all hx.2.1 h3, hx.2.2⟩
  · obtain ⟨h1, h2⟩ := bc_and.1 h
    rw [← same0_eq _ _ h2]; exact hx
theorem fitL_rel {ρ : Env} : ∀ {l m : List AV} {xs : List Value}, fitL l m = true → VRels ρ l xs → VRels ρ m xs
  | [], [], _, _, h => h
  | [], _ :: _, _, h, _ => by cases h
  | _ :: _, [], _, h, _ => by cases h
  | a :: l, b :: m, xs, h, hx => by
    simp only [fitL] at h
    obtain ⟨h1, h2⟩ := bc_and.1 h
    simp only [VRels] at hx ⊢
    obtain ⟨v, vs, e, q1, q2⟩ := hx
    exact ⟨v, vs, e, fitA_rel h1 q1, fitL_rel h2 q2⟩
theorem firstA_all {ρ : Env} : ∀ {l : List AV} {xs : List Value}, hasSym l = true → VRels ρ l xs → SAll ρ.val (firstA l)
  | [], _, h, _ => by cases h
  | v :: l, _, h, hv => by
    simp only [VRels] at hv
    obtain ⟨x, xs, e, q1, q2⟩ := hv
    cases v <;> first
      | (simp only [VRel] at q1; exact q1.2.1)
      | exact firstA_all (l := l) h q2
theorem setA1_rel {ρ : Env} {A : List SA} (hA : SAll ρ.val A) {v : AV} {x : Value} (hx : VRel ρ v x) : VRel ρ (setA1 A v) x := by
  unfold setA1
  split
  · simp only [VRel] at hx ⊢; exact ⟨hx.1, hA, hx.2.2⟩
  · exact hx
theorem setAL_rel {ρ : Env} {A : List SA} (hA : SAll ρ.val A) : ∀ {l : List AV} {xs : List Value}, VRels ρ l xs → VRels ρ (setAL A l) xs
  | [], _, h => h
  | v :: l, _, h => by
    simp only [setAL, VRels] at h ⊢
    obtain ⟨x, xs, e, q1, q2⟩ := h
    exact ⟨x, xs, e, setA1_rel hA q1, setAL_rel hA q2⟩
theorem setA_rel {ρ : Env} {A : List SA} (hA : SAll ρ.val A) {v : AV} {x : Value} (hx : VRel ρ v x) : VRel ρ (setA A v) x := by
  unfold setA
  split
  · simp only [VRel] at hx ⊢; obtain ⟨ys, e, q⟩ := hx; exact ⟨ys, e, setAL_rel hA q⟩
  · exact setA1_rel hA hx
theorem hooksT_ok : ∀ (l : List HE), (∀ f vs v, HE.mk f vs v ∈ l → SymFact f vs v ∧ simp2 v = true ∧ simpL vs = true) → HookOk (hooksT l)
  | [], _ => fun _ _ _ _ h => by cases h
  | .mk g us u :: l, h => by
    have ih := hooksT_ok l fun f vs v hm => h f vs v (List.mem_cons_of_mem _ hm)
    intro f vs aw r hr hok
    simp only [hooksT, bc_eq] at hr
    split at hr
    · rename_i hf
      split at hr
      · rename_i hs
        simp only [Bool.and_eq_true] at hs
        split at hr
        · rename_i hl
          injection hr with hr
          subst hr
          have hf := Nat.eq_of_beq_eq_true hf
          subst hf
          intro ρ args w hg hw hc hv
          obtain ⟨k1, k2, k3⟩ := h f us u (by simp)
          have hV := hasSym_vars hs.1 hv
          have hu := fitL_rel hs.2 hv
          refine Calls.mono (k1 ρ.val args w (laid_ok hg hw _ hl) (simpL_rel (fun _ => vars_σ _) (val_σ' ρ) k3 hu)) fun e w' hp => ?_
          obtain ⟨v', rfl, h1, h2⟩ := hp
          exact ⟨v', ρ, rfl, setA_rel (firstA_all hs.1 hv) (simp2_rel k2 (fun _ => hV) (val_σ' ρ).symm h1), adv_kept hw h2⟩
        · cases hr
      · exact ih f vs aw r hr hok
    · exact ih f vs aw r hr hok
end Go.Ev
