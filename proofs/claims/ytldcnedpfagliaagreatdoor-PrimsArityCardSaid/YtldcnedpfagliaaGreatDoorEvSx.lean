import Derived.Test.YtldcnedpfagliaaGreatDoorEvGo
set_option maxRecDepth 100000
set_option linter.all false
namespace Go.Ev
/- Calls with integers that are not known: from runs to facts, and facts as hooks. -/
section
noncomputable section
def encZ (z : Int) : Nat := if 0 ≤ z then 2 * z.toNat else 2 * (-z).toNat - 1
def ρσ (σ : Nat → Int) : Env := { blk := ρ00.blk, sz := fun k => if 240 ≤ k.num ∧ k.num < 255 then encZ (σ (k.num - 240)) else szOf k laidL }
def simp1 : AV → Bool
  | .sym _ _ _ => true
  | .sx _ _ _ => true
  | v => free v
def simpL : List AV → Bool
  | [] => true
  | v :: l => bc (simp1 v) (simpL l) false
def simp2 : AV → Bool
  | .tuple l => simpL l
  | .agg l => simpL l
  | v => simp1 v
def hasSym : List AV → Bool
  | [] => false
  | .sym _ _ _ :: _ => true
  | _ :: l => hasSym l
def laidLow : List LE → Bool
  | [] => true
  | .mk g _ :: l => bc (Nat.blt g 240) (laidLow l) false
end
end
theorem dec_enc (z : Int) : decZ (encZ z) = z := by
  unfold decZ encZ
  by_cases h : 0 ≤ z
  · rw [if_pos h, if_pos (by omega)]; omega
  · rw [if_neg h, if_neg (by omega)]; omega
theorem vars_σ (σ : Nat → Int) : VarsIn (ρσ σ) := by
  intro i hi
  refine ⟨240 + i, ?_⟩
  show (if (K.of (240 + i)).num ≤ 255 then some (K.of (240 + i)).num else none) = _
  rw [K.of_num' (by omega), if_pos (by omega)]
theorem val_σ (σ : Nat → Int) (i : Nat) (hi : i < 15) : (ρσ σ).val i = σ i := by
  unfold Env.val
  rw [if_pos hi]
  show decZ (if 240 ≤ (K.of (240 + i)).num ∧ (K.of (240 + i)).num < 255 then encZ (σ ((K.of (240 + i)).num - 240)) else _) = _
  rw [K.of_num' (by omega), if_pos (by omega), dec_enc]
  congr 1; omega
theorem val_σ' (ρ : Env) : (ρσ ρ.val).val = ρ.val := by
  funext i
  by_cases hi : i < 15
  · exact val_σ _ i hi
  · unfold Env.val; rw [if_neg hi, if_neg hi]
theorem simp1_rel {v : AV} (h : simp1 v = true) {ρ ρ' : Env} (hV : VarsIn ρ → VarsIn ρ') (he : ρ'.val = ρ.val) {x : Value} (hv : VRel ρ v x) : VRel ρ' v x := by
  cases v <;> first | (cases h; done) | (simp only [VRel] at hv ⊢; exact hv) | (simp only [VRel] at hv ⊢; rw [he]; exact ⟨hV hv.1, hv.2⟩)
theorem simpL_rel {ρ ρ' : Env} (hV : VarsIn ρ → VarsIn ρ') (he : ρ'.val = ρ.val) : ∀ {l : List AV} {xs : List Value}, simpL l = true → VRels ρ l xs → VRels ρ' l xs
  | [], _, _, hv => by simp only [VRels] at hv ⊢; exact hv
  | v :: l, _, h, hv => by
    simp only [simpL] at h
    obtain ⟨h1, h2⟩ := bc_and.1 h
    simp only [VRels] at hv ⊢
    obtain ⟨x, xs, e, q1, q2⟩ := hv
    exact ⟨x, xs, e, simp1_rel h1 hV he q1, simpL_rel hV he h2 q2⟩
theorem simp2_rel {v : AV} (h : simp2 v = true) {ρ ρ' : Env} (hV : VarsIn ρ → VarsIn ρ') (he : ρ'.val = ρ.val) {x : Value} (hv : VRel ρ v x) : VRel ρ' v x := by
  unfold simp2 at h
  split at h
  · simp only [VRel] at hv ⊢; obtain ⟨ys, e, q⟩ := hv; exact ⟨ys, e, simpL_rel hV he h q⟩
  · simp only [VRel] at hv ⊢; obtain ⟨ys, e, q⟩ := hv; exact ⟨ys, e, simpL_rel hV he h q⟩
  · exact simp1_rel h hV he hv
theorem hasSym_vars {ρ : Env} : ∀ {l : List AV} {xs : List Value}, hasSym l = true → VRels ρ l xs → VarsIn ρ
  | [], _, h, _ => by cases h
  | v :: l, _, h, hv => by
    simp only [VRels] at hv
    obtain ⟨x, xs, e, q1, q2⟩ := hv
    unfold hasSym at h
    split at h
    · cases h
    · rename_i he
      injection he with he _
      subst he
      simp only [VRel] at q1
      exact q1.1
    · rename_i he
      injection he with _ he
      subst he
      exact hasSym_vars h q2
theorem low_get : ∀ l, laidLow l = true → ∀ g cs, LE.mk g cs ∈ l → g < 240
  | [], _, _, _, h => by cases h
  | .mk g cs :: l, h, g', cs', hm => by
    simp only [laidLow] at h
    obtain ⟨h1, h2⟩ := bc_and.1 h
    rcases List.mem_cons.1 hm with e | e
    · injection e with e1 e2; subst e1 e2; exact of_decide_eq_true (by simpa [Nat.blt_eq] using h1)
    · exact low_get l h2 g' cs' e
theorem wrelσ (hlow : laidLow laidL = true) {σ : Nat → Int} {w : World} (hl : LaidIn laidL w) : WRel (ρσ σ) wS w := by
  refine ⟨?_, ?_, ?_⟩
  · intro k l hk hl' e
    exact (wrel00 hl).inj k l hk hl' e
  · intro k hk
    obtain ⟨g, cs, h1, h2, h3, h4⟩ := lay_get k laidL hk
    obtain ⟨f1, f2, f3⟩ := fine_get _ laid_fine g cs h1
    obtain ⟨arr, t, fz, q1, q2⟩ := hl g cs h1
    refine ⟨g, by rw [h2]; exact grel00 g f1, ?_⟩
    show ORel (ρσ σ) (hget k (layH laidL)) _
    have hlen := VRels.length _ _ (q2 ρ00)
    rw [h3, q1, llen_eq]
    refine ⟨arr, t, fz, rfl, by simpa using hlen, by rw [ccap_cfill]; exact ccap_cempty _ f3, fun i hi => ?_, fun g' cs' e' hm' ρ' => by
      obtain rfl : g' = g := by have : g + 1 = g' + 1 := e'; omega
      obtain ⟨arr2, t2, fz2, z1, z2⟩ := hl g' cs' hm'
      rw [q1] at z1; injection z1 with z1; injection z1 with z1; subst z1; exact z2 ρ'⟩
    obtain ⟨v, r1, r2⟩ := cells_new (q2 (ρσ σ)) f3 i hi
    exact ⟨v, by simpa using r1, r2⟩
  · intro k c arr t fz hk hc hx
    have := (wrel00 hl).len k c arr t fz hk hc hx
    obtain ⟨g, cs, h1, h2, h3, h4⟩ := lay_get k laidL hk
    have hg := low_get _ hlow g cs h1
    rw [this]
    show szOf k laidL = if 240 ≤ k.num ∧ k.num < 255 then _ else szOf k laidL
    rw [if_neg]
    rw [h2, K.of_num' (by omega)]
    omega
/-- a call whose arguments may be unknown integers -/
def SymFact (f : FuncId) (vs : List AV) (v : AV) : Prop := ∀ (σ : Nat → Int) (args : Array Value) (w : World), LaidIn laidL w → VRels (ρσ σ) vs args.toList →
  Calls PP f args w fun e w' => ∃ v', e = .returned v' ∧ VRel (ρσ σ) v v' ∧ KeptW w w'
theorem symFact_of_run (hlow : laidLow laidL = true) {H : Hook} (hH : HookOk H) {n f : Nat} {vs : List AV} {v : AV} (h2 : simp2 v = true) (h : retV (enter (run H n) f vs wS) v = true) : SymFact f vs v := by
  intro σ args w hl hv
  obtain ⟨aw, h⟩ := retV_eq h
  have := enter_ok (run_ok hH n) (ρ := ρσ σ) (fun g hg => grel00 g hg) (wrelσ hlow hl) (fun k hk => clean00 k hk) (f := f) hv (by rw [h]; trivial)
  rw [h] at this
  refine Calls.mono this fun e w' hp => ?_
  obtain ⟨v', ρ', rfl, hv', hA⟩ := hp
  obtain ⟨m1, m2⟩ := val_mono hA.le (vars_σ σ)
  refine ⟨v', rfl, simp2_rel h2 (fun _ => vars_σ σ) m2.symm hv', kept_of_adv' hA fun c hc => ?_⟩
  obtain ⟨k, hk, hr, _⟩ := hc
  obtain ⟨g, cs, h1, h2, h3, h4⟩ := lay_get k laidL hk
  have hr : (hget k (layH laidL)).isRo = false := hr
  rw [h3] at hr
  cases hr
noncomputable def hooksS (l : List HE) (f : FuncId) (vs : List AV) (w : W) : Option CR := bc (hasSym vs && simpL vs) (hooks l f vs w) none
theorem hooksS_ok (l : List HE) (h : ∀ f vs v, HE.mk f vs v ∈ l → SymFact f vs v ∧ simp2 v = true) : HookOk (hooksS l) := by
  intro f vs aw r hr _ ρ args w hg hw hc hv
  unfold hooksS at hr
  rw [bc_eq] at hr
  split at hr
  · rename_i hs
    simp only [Bool.and_eq_true] at hs
    unfold hooks hookA at hr
    split at hr
    · rename_i v hk
      rw [bc_eq] at hr
      split at hr
      · rename_i hl
        injection hr with hr
        subst hr
        have key : ∀ (l : List HE), (∀ f vs v, HE.mk f vs v ∈ l → SymFact f vs v ∧ simp2 v = true) → ∀ v, known l f vs = some v → SymFact f vs v ∧ simp2 v = true := by
          intro l
          induction l with
          | nil => intro _ v h; cases h
          | cons x l ih =>
            obtain ⟨g, us, u⟩ := x
            intro h v hv
            simp only [known, bc_eq] at hv
            split at hv
            · rename_i hf
              split at hv
              · rename_i hs
                injection hv with hv
                subst hv
                rw [Nat.eq_of_beq_eq_true hf, ← sameL_eq _ _ hs]
                exact h g us u (by simp)
              · exact ih (fun f vs v hm => h f vs v (List.mem_cons_of_mem _ hm)) v hv
            · exact ih (fun f vs v hm => h f vs v (List.mem_cons_of_mem _ hm)) v hv
        obtain ⟨k1, k2⟩ := key l h v hk
        have hV := hasSym_vars hs.1 hv
        refine Calls.mono (k1 ρ.val args w (laid_ok hg hw hl) (simpL_rel (fun _ => vars_σ _) (val_σ' ρ) hs.2 hv)) fun e w' hp => ?_
        obtain ⟨v', rfl, h1, h2⟩ := hp
        exact ⟨v', ρ, rfl, simp2_rel k2 (fun _ => hV) (val_σ' ρ).symm h1, adv_kept hw h2⟩
      · cases hr
    · cases hr
  · cases hr
/- facts used under more decided comparisons than they need -/
section
noncomputable section
def saOne : SA → SA → Bool
  | .mk lt a b r, .mk lt' a' b' r' => bc (sameB lt lt') (bc (seEq a a') (bc (seEq b b') (sameB r r') false) false) false
def saMem (x : SA) : List SA → Bool
  | [] => false
  | y :: l => bc (saOne x y) true (saMem x l)
/-- all of the one in the other -/
def saSub : List SA → List SA → Bool
  | [], _ => true
  | x :: l, m => bc (saMem x m) (saSub l m) false
/-- what is given fits what is wanted -/
def fitA : AV → AV → Bool
  | .sym k e A, .sym k' e' A' => bc (kbeq k k') (bc (seEq e e') (saSub A' A) false) false
  | a, b => bc (free a) (same0 a b) false
def fitL : List AV → List AV → Bool
  | [], [] => true
  | a :: l, b :: m => bc (fitA a b) (fitL l m) false
  | _, _ => false
def firstA : List AV → List SA
  | [] => []
  | .sym _ _ A :: _ => A
  | _ :: l => firstA l
def setA1 (A : List SA) : AV → AV
  | .sym k e _ => .sym k e A
  | v => v
def setAL (A : List SA) : List AV → List AV
  | [] => []
  | v :: l => setA1 A v :: setAL A l
def setA (A : List SA) : AV → AV
  | .tuple l => .tuple (setAL A l)
  | v => setA1 A v
def hooksT (l : List HE) (f : FuncId) (vs : List AV) (w : W) : Option CR := match l with
  | [] => none
  | .mk g us u :: l => bc (Nat.beq f g) (bc (hasSym vs && fitL vs us) (bc (laidIs laidL w) (some (.ret (setA (firstA vs) u) w)) none) (hooksT l f vs w)) (hooksT l f vs w)
end
end
theorem saOne_eq {x y : SA} (h : saOne x y = true) : x = y := by
  obtain ⟨lt, a, b, r⟩ := x
  obtain ⟨lt', a', b', r'⟩ := y
  simp only [saOne] at h
  obtain ⟨h1, h⟩ := bc_and.1 h
  obtain ⟨h2, h⟩ := bc_and.1 h
  obtain ⟨h3, h4⟩ := bc_and.1 h
  rw [sameB_eq h1, seEq_eq _ _ h2, seEq_eq _ _ h3, sameB_eq h4]
theorem saMem_mem {x : SA} : ∀ {l : List SA}, saMem x l = true → x ∈ l
  | [], h => by cases h
  | y :: l, h => by
    simp only [saMem, bc_eq] at h
    split at h
    · rename_i h1; rw [saOne_eq h1]; simp
    · exact List.mem_cons_of_mem _ (saMem_mem h)
theorem saSub_all {σ : Nat → Int} {m : List SA} (hm : SAll σ m) : ∀ {l : List SA}, saSub l m = true → SAll σ l
  | [], _ => fun _ h => by cases h
  | x :: l, h => by
    simp only [saSub] at h
    obtain ⟨h1, h2⟩ := bc_and.1 h
    intro y hy
    rcases List.mem_cons.1 hy with e | e
    · rw [e]; exact hm _ (saMem_mem h1)
    · exact saSub_all hm h2 y e
theorem fitA_rel {ρ : Env} {a b : AV} (h : fitA a b = true) {x : Value} (hx : VRel ρ a x) : VRel ρ b x := by
  unfold fitA at h
  split at h
  · obtain ⟨h1, h⟩ := bc_and.1 h
    obtain ⟨h2, h3⟩ := bc_and.1 h
    simp only [VRel] at hx ⊢
    rw [← (kbeq_iff _ _).1 h1, ← seEq_eq _ _ h2]
    exact ⟨hx.1, saSub_all hx.2.1 h3, hx.2.2⟩
  · obtain ⟨h1, h2⟩ := bc_and.1 h
    rw [← same0_eq _ _ h2]; exact hx
theorem fitL_rel {ρ : Env} : ∀ {l m : List AV} {xs : List Value}, fitL l m = true → VRels ρ l xs → VRels ρ m xs
  | [], [], _, _, h => h
  | [], _ :: _, _, h, _ => by cases h
  | _ :: _, [], _, h, _ => by cases h
  | a :: l, b :: m, xs, h, hx => by
    simp only [fitL] at h
    obtain ⟨h1, h2⟩ := bc_and.1 h
    simp only [VRels] at hx ⊢
    obtain ⟨v, vs, e, q1, q2⟩ := hx
    exact ⟨v, vs, e, fitA_rel h1 q1, fitL_rel h2 q2⟩
theorem firstA_all {ρ : Env} : ∀ {l : List AV} {xs : List Value}, hasSym l = true → VRels ρ l xs → SAll ρ.val (firstA l)
  | [], _, h, _ => by cases h
  | v :: l, _, h, hv => by
    simp only [VRels] at hv
    obtain ⟨x, xs, e, q1, q2⟩ := hv
    cases v <;> first
      | (simp only [VRel] at q1; exact q1.2.1)
      | exact firstA_all (l := l) h q2
theorem setA1_rel {ρ : Env} {A : List SA} (hA : SAll ρ.val A) {v : AV} {x : Value} (hx : VRel ρ v x) : VRel ρ (setA1 A v) x := by
  unfold setA1
  split
  · simp only [VRel] at hx ⊢; exact ⟨hx.1, hA, hx.2.2⟩
  · exact hx
theorem setAL_rel {ρ : Env} {A : List SA} (hA : SAll ρ.val A) : ∀ {l : List AV} {xs : List Value}, VRels ρ l xs → VRels ρ (setAL A l) xs
  | [], _, h => h
  | v :: l, _, h => by
    simp only [setAL, VRels] at h ⊢
    obtain ⟨x, xs, e, q1, q2⟩ := h
    exact ⟨x, xs, e, setA1_rel hA q1, setAL_rel hA q2⟩
theorem setA_rel {ρ : Env} {A : List SA} (hA : SAll ρ.val A) {v : AV} {x : Value} (hx : VRel ρ v x) : VRel ρ (setA A v) x := by
  unfold setA
  split
  · simp only [VRel] at hx ⊢; obtain ⟨ys, e, q⟩ := hx; exact ⟨ys, e, setAL_rel hA q⟩
  · exact setA1_rel hA hx
theorem hooksT_ok : ∀ (l : List HE), (∀ f vs v, HE.mk f vs v ∈ l → SymFact f vs v ∧ simp2 v = true ∧ simpL vs = true) → HookOk (hooksT l)
  | [], _ => fun _ _ _ _ h => by cases h
  | .mk g us u :: l, h => by
    have ih := hooksT_ok l fun f vs v hm => h f vs v (List.mem_cons_of_mem _ hm)
    intro f vs aw r hr hok
    simp only [hooksT, bc_eq] at hr
    split at hr
    · rename_i hf
      split at hr
      · rename_i hs
        simp only [Bool.and_eq_true] at hs
        split at hr
        · rename_i hl
          injection hr with hr
          subst hr
          have hf := Nat.eq_of_beq_eq_true hf
          subst hf
          intro ρ args w hg hw hc hv
          obtain ⟨k1, k2, k3⟩ := h f us u (by simp)
          have hV := hasSym_vars hs.1 hv
          have hu := fitL_rel hs.2 hv
          refine Calls.mono (k1 ρ.val args w (laid_ok hg hw hl) (simpL_rel (fun _ => vars_σ _) (val_σ' ρ) k3 hu)) fun e w' hp => ?_
          obtain ⟨v', rfl, h1, h2⟩ := hp
          exact ⟨v', ρ, rfl, setA_rel (firstA_all hs.1 hv) (simp2_rel k2 (fun _ => hV) (val_σ' ρ).symm h1), adv_kept hw h2⟩
        · cases hr
      · exact ih f vs aw r hr hok
    · exact ih f vs aw r hr hok
end Go.Ev
set_option maxRecDepth 100000
set_option linter.all false
namespace Go.Ev
/- Calls whose arguments hang on inputs that are not known: integers, a string, what a table says of it. -/
/-- a call that leaves the memory as it is, at arguments that may hang on what is not known -/
def XFact (f : FuncId) (vs : List AV) (v : AV) : Prop := ∀ (ρ : Env) (args : Array Value) (w : World), LaidIn laidL w → VRels ρ vs args.toList →
  Calls PP f args w fun e w' => ∃ v', e = .returned v' ∧ VRel ρ v v' ∧ KeptW w w'
theorem known_mem {f : FuncId} {vs : List AV} {v : AV} : ∀ (l : List HE), known l f vs = some v → HE.mk f vs v ∈ l
  | [], h => by cases h
  | .mk g us u :: l, h => by
    simp only [known, bc_eq] at h
    split at h
    · rename_i hf
      split at h
      · rename_i hs
        injection h with h
        subst h
        rw [Nat.eq_of_beq_eq_true hf, ← sameL_eq _ _ hs]
        simp
      · exact List.mem_cons_of_mem _ (known_mem l h)
    · exact List.mem_cons_of_mem _ (known_mem l h)
theorem hooksX_ok (l : List HE) (h : ∀ f vs v, HE.mk f vs v ∈ l → XFact f vs v) : HookOk (hooks l) := by
  intro f vs aw r hr _ ρ args w hg hw hc hv
  unfold hooks hookA at hr
  split at hr
  · rename_i v hk
    rw [bc_eq] at hr
    split at hr
    · rename_i hl
      injection hr with hr
      subst hr
      refine Calls.mono (h f vs v (known_mem l hk) ρ args w (laid_ok hg hw hl) hv) fun e w' hp => ?_
      obtain ⟨v', rfl, h1, h2⟩ := hp
      exact ⟨v', ρ, rfl, h1, adv_kept hw h2⟩
    · cases hr
  · cases hr
theorem XFact.of_hook {f : FuncId} {vs : List AV} {v : AV} (h : HookFact f vs v) : XFact f vs v := by
  intro ρ args w hl hv
  refine Calls.mono (h ρ args w hl hv) fun e w' hp => ?_
  obtain ⟨v', rfl, h1, h2⟩ := hp
  exact ⟨v', rfl, h1 ρ, h2⟩
theorem args1 {ρ : Env} {a : AV} {args : Array Value} (h : VRels ρ [a] args.toList) : ∃ x, args = #[x] ∧ VRel ρ a x := by
  simp only [VRels] at h
  obtain ⟨x, r, e, h1, h2⟩ := h
  rw [h2] at e
  exact ⟨x, by rw [← Array.toArray_toList (xs := args), e], h1⟩
theorem args2 {ρ : Env} {a b : AV} {args : Array Value} (h : VRels ρ [a, b] args.toList) : ∃ x y, args = #[x, y] ∧ VRel ρ a x ∧ VRel ρ b y := by
  simp only [VRels] at h
  obtain ⟨x, r, e, h1, y, r', e', h2, h3⟩ := h
  rw [e', h3] at e
  exact ⟨x, y, by rw [← Array.toArray_toList (xs := args), e], h1, h2⟩
/- remainders -/
def ltA (e : SE) (n : Int) (r : Bool) : SA := .mk true e (.c n) r
def eqA1 (e : SE) (n : Int) : SA := .mk false e (.c n) true
def tmE (i : Nat) (k : Int) : SE := .bin 4 .i64 (.v i) (.c k)
def emE (i : Nat) (k : Int) : SE := .bin 5 .i64 (.v i) (.c k)
theorem tmod_emod {x k : Int} (hk : 0 < k) : (x.tmod k < 0 → x % k = x.tmod k + k) ∧ (0 ≤ x.tmod k → x % k = x.tmod k) := by
  by_cases hx : x < 0
  · have h1 : x.tmod k = -((-x).tmod k) := by rw [Int.neg_tmod, Int.neg_neg]
    have h2 : (-x).tmod k = (-x) % k := Int.tmod_eq_emod_of_nonneg (by omega)
    rw [h1, h2]
    have h3 := Int.emod_nonneg (-x) (show k ≠ 0 by omega)
    have h4 := Int.emod_lt_of_pos (-x) hk
    have h5 := Int.emod_nonneg x (show k ≠ 0 by omega)
    have h6 := Int.emod_lt_of_pos x hk
    have h7 := Int.mul_ediv_add_emod x k
    have h8 := Int.mul_ediv_add_emod (-x) k
    have h9 : k * (x / k + (-x) / k) = -(x % k + (-x) % k) := by rw [Int.mul_add]; omega
    have h10 : x / k + (-x) / k = 0 ∨ x / k + (-x) / k = -1 := by
      rcases Int.lt_trichotomy (x / k + (-x) / k) 0 with q | q | q
      · by_cases q' : x / k + (-x) / k < -1
        · exfalso
          have := Int.mul_le_mul_of_nonneg_left (show x / k + (-x) / k ≤ -2 by omega) (show 0 ≤ k by omega)
          omega
        · right; omega
      · exact .inl q
      · exfalso
        have := Int.mul_le_mul_of_nonneg_left (show 1 ≤ x / k + (-x) / k by omega) (show 0 ≤ k by omega)
        omega
    rcases h10 with q | q
    · rw [q] at h9; constructor <;> intro h <;> omega
    · rw [q] at h9; constructor <;> intro h <;> omega
  · have h2 : x.tmod k = x % k := Int.tmod_eq_emod_of_nonneg (by omega)
    have h3 := Int.emod_nonneg x (show k ≠ 0 by omega)
    rw [h2]
    exact ⟨fun h => by omega, fun _ => rfl⟩
/-- a function that gives the remainder that is not below 0 -/
def PickFact (f : FuncId) (k : Int) : Prop := ∀ (x : Int) (w : World), LaidIn laidL w → Calls PP f #[.int .i64 x, .int .i64 k] w fun e w' => e = .returned (.int .i64 (x % k)) ∧ KeptW w w'
theorem pick_fact {f : FuncId} {k : Int} (hk : 0 < k) (hk2 : k < 1000000)
    (h1 : SymFact f [.sym .i64 (.v 0) [ltA (tmE 0 k) 0 true], .int .i64 k] (.sym .i64 (.bin 0 .i64 (tmE 0 k) (.c k)) [ltA (tmE 0 k) 0 true]))
    (h2 : SymFact f [.sym .i64 (.v 0) [ltA (tmE 0 k) 0 false], .int .i64 k] (.sym .i64 (tmE 0 k) [ltA (tmE 0 k) 0 false])) : PickFact f k := by
  intro x w hl
  have hval : (ρσ fun _ => x).val 0 = x := val_σ _ 0 (by omega)
  have hin : ∀ r, decide (x.tmod k < 0) = r → VRels (ρσ fun _ => x) [.sym .i64 (.v 0) [ltA (tmE 0 k) 0 r], .int .i64 k] (#[Value.int .i64 x, .int .i64 k] : Array Value).toList := by
    intro r hr
    simp only [VRels, VRel]
    refine ⟨_, _, rfl, ⟨vars_σ _, ?_, by simp only [SE.eval, hval]⟩, _, [], rfl, rfl, rfl⟩
    intro a ha
    rw [List.mem_singleton] at ha
    subst ha
    show decide ((tmE 0 k).eval _ < (SE.c 0).eval _) = r
    simp only [tmE, SE.eval, hval]
    exact hr
  have hb1 := Int.tmod_lt_of_pos x hk
  obtain ⟨m1, m2⟩ := tmod_emod (x := x) hk
  by_cases hlt : x.tmod k < 0
  · refine Calls.mono (h1 (fun _ => x) _ w hl (hin true (by simpa using hlt))) fun e w' hp => ?_
    obtain ⟨v', rfl, hv, hK⟩ := hp
    simp only [VRel] at hv
    obtain ⟨_, _, rfl⟩ := hv
    refine ⟨?_, hK⟩
    simp only [tmE, SE.eval, hval]
    rw [m1 hlt]
    have h5 := Int.emod_nonneg x (show k ≠ 0 by omega)
    rw [Go.IntWalk.i64_in _ (by rw [m1 hlt] at h5; omega)]
  · refine Calls.mono (h2 (fun _ => x) _ w hl (hin false (by simpa using hlt))) fun e w' hp => ?_
    obtain ⟨v', rfl, hv, hK⟩ := hp
    simp only [VRel] at hv
    obtain ⟨_, _, rfl⟩ := hv
    refine ⟨?_, hK⟩
    simp only [tmE, SE.eval, hval]
    rw [m2 (by omega)]
theorem pick_x {f : FuncId} {k : Int} (h : PickFact f k) {j : Nat} {i : Int} {A : List SA} (hA : eqA1 (emE j k) i ∈ A) : XFact f [.sym .i64 (.v j) A, .int .i64 k] (.int .i64 i) := by
  intro ρ args w hl hv
  obtain ⟨x, y, rfl, h1, h2⟩ := args2 hv
  simp only [VRel] at h1 h2
  obtain ⟨hV, hS, rfl⟩ := h1
  subst h2
  refine Calls.mono (h _ w hl) fun e w' hp => ?_
  obtain ⟨rfl, hK⟩ := hp
  have he := hS _ hA
  have he : decide ((emE j k).eval ρ.val = (SE.c i).eval ρ.val) = true := he
  simp only [emE, SE.eval, decide_eq_true_eq] at he
  exact ⟨_, rfl, by simp only [VRel, SE.eval]; rw [he], hK⟩
/-- what a table says of the string -/
theorem table_x {f : FuncId} (h1 : ∀ p ∈ arL, SymFact f [.str p.1 p.2.1] (.tuple [.int .i64 p.2.2.1, .int .i64 p.2.2.2, .bool true]) ∧ p.2.1 < 256 ^ p.1)
    (h2 : SymFact f [.sx 0 (.c 0) (arL.map fun p => (p.1, p.2.1))] (.tuple [.int .i64 0, .int .i64 0, .bool false])) :
    XFact f [.sx 2 (.c 0) []] (.tuple [.sym .i64 (.v 3) [], .sym .i64 (.v 4) [], .sx 1 (.v 5) []]) := by
  intro ρ args w hl hv
  obtain ⟨x, rfl, hx⟩ := args1 hv
  simp only [VRel] at hx
  obtain ⟨hV, hx⟩ := hx
  obtain ⟨rfl, hO⟩ := (show x = .string (strV ρ.val) ∧ ArOk ρ.val from hx)
  have fin : ∀ (a b : Int) (r : Bool) (c : Int), arTab (strV ρ.val) = (a, b, c) → r = decide (c ≠ 0) → ∀ v', VRel (ρσ ρ.val) (.tuple [.int .i64 a, .int .i64 b, .bool r]) v' → VRel ρ (.tuple [.sym .i64 (.v 3) [], .sym .i64 (.v 4) [], .sx 1 (.v 5) []]) v' := by
    intro a b r c he hr v' hv'
    unfold ArOk at hO
    rw [he] at hO
    simp only [Prod.mk.injEq] at hO
    obtain ⟨e3, e4, e5⟩ := hO
    simp only [VRel, VRels] at hv' ⊢
    obtain ⟨ys, rfl, v1, r1, q1, w1, v2, r2, q2, w2, v3, r3, q3, w3, q4⟩ := hv'
    refine ⟨ys, rfl, v1, r1, q1, ⟨hV, (fun _ h => by cases h), by simp only [SE.eval]; rw [w1, e3]⟩, v2, r2, q2, ⟨hV, (fun _ h => by cases h), by simp only [SE.eval]; rw [w2, e4]⟩, v3, r3, q3, ⟨hV, ?_⟩, q4⟩
    show v3 = .bool (decide ((SE.v 5).eval ρ.val ≠ 0))
    have e6 : (SE.v 5).eval ρ.val = c := by rw [e5]; rfl
    rw [w3, hr]
    congr 1
    exact decide_eq_decide.2 (by rw [e6])
  cases hf : arL.find? fun p => decide (unpack p.1 p.2.1 = strV ρ.val) with
  | some p =>
    have hp := List.mem_of_find?_eq_some hf
    have heq := List.find?_some hf
    have heq : unpack p.1 p.2.1 = strV ρ.val := by simpa using heq
    obtain ⟨g1, g2⟩ := h1 p hp
    refine Calls.mono (g1 ρ.val _ w hl (by simp only [VRels, VRel]; exact ⟨_, [], rfl, ⟨g2, by rw [heq]⟩, rfl⟩)) fun e w' hq => ?_
    obtain ⟨v', rfl, hv', hK⟩ := hq
    refine ⟨v', rfl, fin _ _ true 1 ?_ (by decide) v' hv', hK⟩
    unfold arTab; rw [hf]
  | none =>
    have hnone := List.find?_eq_none.1 hf
    refine Calls.mono (h2 ρ.val _ w hl (by
      simp only [VRels, VRel]
      refine ⟨_, [], rfl, ⟨vars_σ _, ?_⟩, rfl⟩
      show _ = Value.string (strV (ρσ ρ.val).val) ∧ _
      rw [val_σ']
      refine ⟨rfl, fun q hq => ?_⟩
      obtain ⟨p, hp, rfl⟩ := List.mem_map.1 hq
      intro e
      exact hnone p hp (by simpa using e.symm))) fun e w' hq => ?_
    obtain ⟨v', rfl, hv', hK⟩ := hq
    refine ⟨v', rfl, fin _ _ false 0 ?_ (by decide) v' hv', hK⟩
    unfold arTab; rw [hf]
end Go.Ev
