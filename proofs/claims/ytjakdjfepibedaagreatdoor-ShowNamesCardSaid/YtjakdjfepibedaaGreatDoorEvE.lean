import Derived.Test.YtjakdjfepibedaaGreatDoorEvW
set_option linter.all false
namespace Go.Ev
/- The quick operations say nothing else than the readable ones. -/
def Le (r s : OR) : Prop := (∃ c, r = .no c) ∨ r = s
theorem NOK.le {ρ : Env} {a : W} {w : World} {s : Sem Next} {r r' : OR} (h : NOK ρ a w s r) (e : Le r' r) : NOK ρ a w s r' := by
  rcases e with ⟨c, rfl⟩ | rfl
  · trivial
  · exact h
theorem Le.refl (r : OR) : Le r r := .inr rfl
theorem lapp_eq {α : Type} (l m : List α) : lapp l m = l ++ m := by
  induction l with
  | nil => rfl
  | cons x l ih => show x :: lapp l m = _; rw [ih]; rfl
theorem xsAll_eq (l : List Operand) (τ : F) : xsAll l τ = evXs l τ := by
  induction l with
  | nil => rfl
  | cons x l ih => show evX x τ :: xsAll l τ = _; rw [ih]; rfl
theorem fLdOne_le (p : AV) (a : W) : Le (fLdOne p a) (ldOne p a) := by
  cases p <;> first
    | exact .inl ⟨_, rfl⟩
    | exact .inr rfl
    | (rename_i b off
       show Le (fObjGet (wget b a) off a) (match objGet (wget b a) off with | some v => .val v a | none => .no 3)
       cases wget b a <;> first
         | exact .inl ⟨_, rfl⟩
         | (simp only [fObjGet, objGet, bc_eq]; split <;> first | exact .inr rfl | exact .inl ⟨_, rfl⟩))
theorem fLdMany_le (p : AV) (n : Nat) (a : W) : Le (fLdMany p n a) (ldMany n p a) := by
  cases p <;> first
    | exact .inl ⟨_, rfl⟩
    | (rename_i b off
       show Le (fObjList (wget b a) off n a) (match objList (wget b a) off n with | some l => .val (.agg l) a | none => .no 5)
       cases wget b a <;> first
         | exact .inl ⟨_, rfl⟩
         | (simp only [fObjList, objList, bc_eq]; split <;> first | exact .inr rfl | exact .inl ⟨_, rfl⟩))
theorem fLoad_le (t : TypeId) (p : AV) (a : W) : Le (fLoad t p a) (evLoad t p a) := by
  unfold fLoad evLoad
  cases aggOf t with
  | none => exact .inl ⟨_, rfl⟩
  | some o => cases o with
    | none => exact fLdOne_le p a
    | some n => exact fLdMany_le p n a
theorem fStMany_le (p : AV) (l : List AV) (a : W) : Le (fStMany p l a) (stMany l p a) := by
  cases p <;> first
    | exact .inl ⟨_, rfl⟩
    | (rename_i b off
       show Le (fObjSet (wget b a) off l b a) (match objSet (wget b a) off l with | some o => .val undefA (wset b o a) | none => .no 7)
       cases wget b a <;> first
         | exact .inl ⟨_, rfl⟩
         | (simp only [fObjSet, objSet, bc_eq]
            split
            · split
              · split
                · rename_i h1 h2 h3; first | exact .inr rfl | (simp only [h1, h2, h3, if_true]; exact .inr rfl)
                · exact .inl ⟨_, rfl⟩
              · exact .inl ⟨_, rfl⟩
            · exact .inl ⟨_, rfl⟩))
theorem fStore_le (t : TypeId) (p v : AV) (a : W) : Le (fStore t p v a) (evStore t p v a) := by
  unfold fStore evStore
  cases aggOf t with
  | none => exact .inl ⟨_, rfl⟩
  | some o => cases o with
    | none => cases v <;> first | exact .inl ⟨_, rfl⟩ | exact fStMany_le p _ a
    | some n =>
      cases v <;> first | exact .inl ⟨_, rfl⟩ | skip
      rename_i l
      show Le (bc (Nat.beq (llen l) n) (fStMany p l a) (.no 11)) (bc (Nat.beq (llen l) n) (stMany l p a) (.no 11))
      simp only [bc_eq]
      split
      · exact fStMany_le p l a
      · exact .inl ⟨_, rfl⟩
theorem subNN_eq (m n : Nat) : subNN m n = (m : Int) - (n : Int) := by
  unfold subNN
  rw [bc_eq]
  split
  · rename_i h; have := Nat.le_of_ble_eq_true h; show ((m - n : Nat) : Int) = _; omega
  · rename_i h
    have h : ¬ n ≤ m := fun e => h (Nat.ble_eq_true_of_le e)
    show Int.negSucc (n - m - 1) = _
    rw [Int.negSucc_eq]; omega
theorem fadd_eq (x y : Int) : fadd x y = x + y := by
  cases x with
  | ofNat m => cases y with
    | ofNat n => rfl
    | negSucc n => show subNN m (n + 1) = _; rw [subNN_eq, Int.negSucc_eq]; show (m : Int) - _ = (m : Int) + _; omega
  | negSucc m => cases y with
    | ofNat n => show subNN n (m + 1) = _; rw [subNN_eq, Int.negSucc_eq]; show (n : Int) - _ = _ + (n : Int); omega
    | negSucc n => show Int.negSucc (m + n + 1) = _; rw [Int.negSucc_eq, Int.negSucc_eq, Int.negSucc_eq]; omega
theorem fneg_eq (x : Int) : fneg x = -x := by
  cases x with
  | ofNat m =>
    show bc (Nat.beq m 0) (Int.ofNat 0) (Int.negSucc (m - 1)) = _
    rw [bc_eq]
    split
    · rename_i h; have := Nat.eq_of_beq_eq_true h; subst this; rfl
    · rename_i h
      have h : m ≠ 0 := fun e => h (by rw [e]; rfl)
      rw [Int.negSucc_eq]; show _ = -(m : Int); omega
  | negSucc m => rfl
theorem fleb_eq (x y : Int) : fleb x y = ileb x y := by cases x <;> cases y <;> rfl
theorem feqb_eq (x y : Int) : feqb x y = ieqb x y := by cases x <;> cases y <;> rfl
theorem fkeq_eq (k l : IntKind) : fkeq k l = kbeq k l := by cases k <;> cases l <;> rfl
theorem fwrap_eq (k : IntKind) (n : Int) : fwrap k n = wrapF k n := by cases n <;> cases k <;> rfl
theorem bnot_eq (b : Bool) : bnot b = !b := by cases b <;> rfl
theorem fIntOp_eq (op : BinOp) (k : IntKind) (x y : Int) (a : W) : fIntOp op k x y a = retO (intBin op k x y) a 21 := by
  cases op <;> first
    | rfl
    | (show OR.val _ a = OR.val _ a; simp only [fwrap_eq, fadd_eq, fneg_eq, fleb_eq, feqb_eq, bnot_eq, Int.sub_eq_add_neg]; rfl)
    | (show OR.val _ a = OR.val _ a; simp only [fwrap_eq, fadd_eq, fneg_eq, fleb_eq, feqb_eq, bnot_eq])
theorem fIntBin_le (op : BinOp) (t : TypeId) (x y : Operand) (k k' : IntKind) (m n : Int) (a : W) : Le (fIntBin k m k' n op a) (evBin op t x y (.int k m) (.int k' n) a) := by
  unfold fIntBin
  rw [fkeq_eq, fIntOp_eq]
  cases op <;> simp only [bc_eq, isShift, evBin] <;> split <;> first
    | exact .inr rfl
    | exact .inl ⟨_, rfl⟩
    | (cases intBin _ k m n <;> first | exact .inr rfl | exact .inl ⟨_, rfl⟩)
theorem fBin_le (op : BinOp) (t : TypeId) (x y : Operand) (p q : AV) (a : W) : Le (fBin p q x y t op a) (evBin op t x y p q a) := by
  cases p <;> first
    | exact .inr rfl
    | (cases q <;> first
        | exact .inr rfl
        | exact fIntBin_le op t x y _ _ _ _ a)
theorem fPick_le (c p q : AV) (a : W) : Le (fPick c p q a) (evPick c p q a) := by cases c <;> first | exact .inl ⟨_, rfl⟩ | exact .inr rfl
theorem fNilCheck_le (p : AV) (a : W) : Le (fNilCheck p a) (evNilCheck p a) := by
  cases p <;> first
    | exact .inl ⟨_, rfl⟩
    | exact .inr rfl
    | (rename_i f x y; cases f <;> first | exact .inl ⟨_, rfl⟩ | exact .inr rfl)
theorem fExtract_le (p : AV) (i : Nat) (a : W) : Le (fExtract p i a) (evExtract p i a) := by cases p <;> first | exact .inl ⟨_, rfl⟩ | exact .inr rfl
theorem fFieldAddr_le (s : TypeId) (f : Nat) (p : AV) (a : W) : Le (fFieldAddr s f p a) (evFieldAddr s f p a) := by
  unfold fFieldAddr evFieldAddr
  cases structPlace s f with
  | none => exact .inl ⟨_, rfl⟩
  | some o => cases p <;> first | exact .inl ⟨_, rfl⟩ | exact .inr rfl
theorem fNat_eq (p : AV) : fNat p = natOf p := by
  cases p <;> first | rfl | (rename_i k n; cases n <;> rfl)
theorem fKeyEq_eq (p q : AV) : fKeyEq p q = keyEq p q := by
  cases p <;> first
    | rfl
    | (cases q <;> first
        | rfl
        | (show bc (fkeq _ _) (some (feqb _ _)) none = bc (kbeq _ _) (some (ieqb _ _)) none; rw [fkeq_eq, feqb_eq]))
theorem fFind_eq (k : AV) : ∀ es : List (AV × AV), fFind es k = findA k es
  | [] => rfl
  | e :: es => by
    show fFindK (fKeyEq k e.1) e (fFind es) k = findA k (e :: es)
    rw [fKeyEq_eq]
    have ih := fFind_eq k es
    cases h : keyEq k e.1 with
    | none => simp only [findA, h]; rfl
    | some b => cases b <;> simp only [findA, h] <;> first | exact ih | rfl
theorem fAdd_eq (k v : AV) : ∀ es : List (AV × AV), fAdd es k v = es ++ [(k, v)]
  | [] => rfl
  | e :: es => by show e :: fAdd es k v = _; rw [fAdd_eq k v es]; rfl
theorem putA_new (k v : AV) : ∀ es : List (AV × AV), findA k es = some none → putA k v es = some (es ++ [(k, v)])
  | [], _ => rfl
  | e :: es, h => by
    unfold findA at h
    unfold putA
    cases hk : keyEq k e.1 with
    | none => rw [hk] at h; cases h
    | some b =>
      rw [hk] at h
      cases b with
      | true => cases h
      | false => simp only at h ⊢; rw [putA_new k v es h]; rfl
theorem fPut_le (k v : AV) (es : List (AV × AV)) : fPut es k v = none ∨ fPut es k v = putA k v es := by
  unfold fPut
  rw [fFind_eq]
  cases h : findA k es with
  | none => exact .inl rfl
  | some o => cases o with
    | none => right; rw [putA_new k v es h]; simp only [fAdd_eq]
    | some _ => exact .inr rfl
theorem fUpdate_le (t : TypeId) (m k v : AV) (a : W) : Le (fUpdate t m k v a) (evUpdate t m k v a) := by
  unfold fUpdate evUpdate
  simp only [bc_eq]
  split
  case isFalse => exact .inr rfl
  cases m <;> try exact .inl ⟨_, rfl⟩
  rename_i b
  show Le (fUpdO (wget b a) b k v a) (match wget b a with | .map es => (match putA k v es with | some es' => .val undefA (wset b (.map es') a) | none => .no 74) | .umap es => (if noneA k es = true then .val undefA (wset b (.umap (es ++ [(k, v)])) a) else .no 74) | _ => .no 75)
  cases wget b a <;> try exact .inl ⟨_, rfl⟩
  rename_i es
  show Le (match fPut es k v with | some es' => .val undefA (wset b (.map es') a) | none => .no 74) (match putA k v es with | some es' => .val undefA (wset b (.map es') a) | none => .no 74)
  rcases fPut_le k v es with h | h
  · rw [h]; exact .inl ⟨_, rfl⟩
  · rw [h]; exact .inr rfl
theorem fIndexAddr_le (t : TypeId) (x i : AV) (a : W) : Le (fIndexAddr t x i a) (evIndexAddr t x i a) := by
  unfold fIndexAddr
  cases h : elemSize t with
  | none => exact .inr rfl
  | some s =>
    unfold elemSize at h
    split at h <;> try (cases h; done)
    rename_i e hu
    show Le (fIdxN (fNat i) s x t i a) _
    rw [fNat_eq]
    unfold evIndexAddr
    rw [hu]
    cases natOf i with
    | none => exact .inl ⟨_, rfl⟩
    | some n => cases x <;> first
      | exact .inl ⟨_, rfl⟩
      | (simp only [h]; exact .inr rfl)
theorem fIndex_le (t : TypeId) (x i : AV) (a : W) : Le (fIndex t x i a) (evIndex t x i a) := by
  unfold fIndex
  cases h : isStr t with
  | false => exact .inr rfl
  | true =>
    unfold isStr at h
    split at h <;> try (cases h; done)
    rename_i hu
    show Le (fIdxSN (fNat i) x a) _
    rw [fNat_eq]
    unfold evIndex
    rw [hu]
    cases natOf i with
    | none => exact .inl ⟨_, rfl⟩
    | some n => cases x <;> first | exact .inl ⟨_, rfl⟩ | exact .inr rfl
theorem fLen_le (t : TypeId) (x : AV) (a : W) : Le (fLen t x a) (evLen t x a) := by
  unfold fLen
  cases h : isSlice t with
  | true =>
    unfold isSlice at h
    split at h <;> try (cases h; done)
    rename_i e hu
    unfold evLen
    rw [hu]
    cases x <;> first | exact .inl ⟨_, rfl⟩ | exact .inr rfl
  | false =>
    cases h : isStr t with
    | false => exact .inr rfl
    | true =>
      unfold isStr at h
      split at h <;> try (cases h; done)
      rename_i hu
      unfold evLen
      rw [hu]
      cases x <;> first | exact .inl ⟨_, rfl⟩ | exact .inr rfl
theorem fCallFn_eq (f : FuncId) (vs : List AV) (a : W) : fCallFn f vs a = callFn f vs a := by
  unfold fCallFn
  match h : externOf f with
  | 0 => rfl
  | 1 => show OR.call f vs a = _; unfold callFn; rw [h]; rfl
  | n + 2 => rfl
theorem fCallV_le (x : AV) (vs : List AV) (a : W) : Le (fCallV x vs a) (callV x vs a) := by
  cases x <;> try exact .inl ⟨_, rfl⟩
  rename_i fn p q
  cases fn <;> try exact .inr rfl
  rename_i g
  show Le (fCallFn g (lapp (lapp p vs) q) a) (callFn g ((p ++ vs) ++ q) a)
  rw [fCallFn_eq, lapp_eq, lapp_eq]
  exact .inr rfl
theorem fCallM_le (x : AV) (name : String) (vs : List AV) (a : W) : Le (fCallM x name vs a) (callM x name vs a) := by
  cases x <;> try exact .inl ⟨_, rfl⟩
  rename_i t v
  show Le (fMeth (dispatch t name) v vs a) (callM (.iface t v) name vs a)
  unfold fMeth callM
  cases h : dispatch t name with
  | none => exact .inl ⟨_, rfl⟩
  | some fo =>
    obtain ⟨f, o⟩ := fo
    cases o with
    | none => simp only [fCallFn_eq, h]; exact .inr rfl
    | some e => simp only [fCallFn_eq, h]; exact .inr rfl
theorem fBuiltin_le (b : Builtin) (ts : List TypeId) (vs : List AV) (a : W) : Le (fBuiltin b ts vs a) (evBuiltin b ts vs a) := by
  cases b <;> try exact .inr rfl
  cases ts with
  | nil => exact .inl ⟨_, rfl⟩
  | cons t ts => match vs with
    | [] => exact .inl ⟨_, rfl⟩
    | [x] => exact fLen_le t x a
    | x :: y :: r => exact .inl ⟨_, rfl⟩
theorem fOp_le (o : Op) (τ : F) (a : W) : Le (fOp o τ a) (evOp o τ a) := by
  cases o <;> try exact .inr rfl
  case pick => exact fPick_le _ _ _ a
  case insert => exact fUpdate_le _ _ _ _ a
  case load => exact fLoad_le _ _ a
  case store => exact fStore_le _ _ _ a
  case nilCheck => exact fNilCheck_le _ a
  case binOp => exact fBin_le _ _ _ _ _ _ a
  case makeFunc fn f c =>
    show Le (bc (plainFn fn) (.val (.func fn (xsAll f.toList τ) (xsAll c.toList τ)) a) (.no 175)) (bc (plainFn fn) (.val (.func fn (evXs f.toList τ) (evXs c.toList τ)) a) (.no 175))
    rw [xsAll_eq, xsAll_eq]; exact .inr rfl
  case fieldAddr => exact fFieldAddr_le _ _ _ a
  case indexAddr => exact fIndexAddr_le _ _ _ a
  case index => exact fIndex_le _ _ _ a
  case mapUpdate => exact fUpdate_le _ _ _ _ a
  case extract => exact fExtract_le _ _ a
  case call c =>
    obtain ⟨callee, args, ts⟩ := c
    cases callee with
    | value f => show Le (fCallV (evX f τ) (xsAll args.toList τ) a) _; rw [xsAll_eq]; exact fCallV_le _ _ a
    | invoke r name => show Le (fCallM (evX r τ) name (xsAll args.toList τ) a) _; rw [xsAll_eq]; exact fCallM_le _ _ _ a
    | builtin b => show Le (fBuiltin b ts.toList (xsAll args.toList τ) a) _; rw [xsAll_eq]; exact fBuiltin_le _ _ _ a
end Go.Ev
