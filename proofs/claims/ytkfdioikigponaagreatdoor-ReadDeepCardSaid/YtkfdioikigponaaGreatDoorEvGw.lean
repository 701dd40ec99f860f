import Derived.Test.YtkfdioikigponaaGreatDoorEvW
set_option linter.all false
namespace Go.Ev
variable [Gv]
/- The quick operations say nothing else than the readable ones. -/
def Le (r s : OR) : Prop := (∃ c, r = .no c) ∨ r = s
theorem NOK.le {ρ : Env} {a : W} {w : World} {s : Sem Next} {r r' : OR} (h : NOK ρ a w s r) (e : Le r' r) : NOK ρ a w s r' := by
  rcases e with ⟨c, rfl⟩ | rfl
  · trivial
  · exact h
theorem Le.refl (r : OR) : Le r r := .inr rfl
theorem lapp_eq {α : Type} (l m : List α) : lapp l m = l ++ m := by
  induction l with
  | nil => rfl
  | cons x l ih => show x :: lapp l m = _; rw [ih]; rfl
theorem xsAll_eq (l : List Operand) (τ : F) : xsAll l τ = evXs l τ := by
  induction l with
  | nil => rfl
  | cons x l ih => show evX x τ :: xsAll l τ = _; rw [ih]; rfl
theorem fLdOne_le (p : AV) (a : W) : Le (fLdOne p a) (ldOne p a) := by
  cases p <;> first
    | exact .inl ⟨_, rfl⟩
    | exact .inr rfl
    | (rename_i b off
       show Le (fObjGet (wget b a) off a) (match objGet (wget b a) off with | some v => .val v a | none => .no 3)
       cases wget b a <;> first
         | exact .inl ⟨_, rfl⟩
         | (simp only [fObjGet, objGet, bc_eq]; split <;> first | exact .inr rfl | exact .inl ⟨_, rfl⟩))
theorem fLdMany_le (p : AV) (n : Nat) (a : W) : Le (fLdMany p n a) (ldMany n p a) := by
  cases p <;> first
    | exact .inl ⟨_, rfl⟩
    | (rename_i b off
       show Le (fObjList (wget b a) off n a) (match objList (wget b a) off n with | some l => .val (.agg l) a | none => .no 5)
       cases wget b a <;> first
         | exact .inl ⟨_, rfl⟩
         | (simp only [fObjList, objList, bc_eq]; split <;> first | exact .inr rfl | exact .inl ⟨_, rfl⟩))
theorem fLoad_le (t : TypeId) (p : AV) (a : W) : Le (fLoad t p a) (evLoad t p a) := by
  unfold fLoad evLoad
  cases aggOf t with
  | none => exact .inl ⟨_, rfl⟩
  | some o => cases o with
    | none => exact fLdOne_le p a
    | some n => exact fLdMany_le p n a
theorem fStMany_le (p : AV) (l : List AV) (a : W) : Le (fStMany p l a) (stMany l p a) := by
  cases p <;> first
    | exact .inl ⟨_, rfl⟩
    | (rename_i b off
       show Le (fObjSet (wget b a) off l b a) (match objSet (wget b a) off l with | some o => .val undefA (wset b o a) | none => .no 7)
       cases wget b a <;> first
         | exact .inl ⟨_, rfl⟩
         | (simp only [fObjSet, objSet, bc_eq]
            split
            · split
              · split
                · rename_i h1 h2 h3; first | exact .inr rfl | (simp only [h1, h2, h3, if_true]; exact .inr rfl)
                · exact .inl ⟨_, rfl⟩
              · exact .inl ⟨_, rfl⟩
            · exact .inl ⟨_, rfl⟩))
theorem fStore_le (t : TypeId) (p v : AV) (a : W) : Le (fStore t p v a) (evStore t p v a) := by
  unfold fStore evStore
  cases aggOf t with
  | none => exact .inl ⟨_, rfl⟩
  | some o => cases o with
    | none => cases v <;> first | exact .inl ⟨_, rfl⟩ | exact fStMany_le p _ a
    | some n =>
      cases v <;> first | exact .inl ⟨_, rfl⟩ | skip
      rename_i l
      show Le (bc (Nat.beq (llen l) n) (fStMany p l a) (.no 11)) (bc (Nat.beq (llen l) n) (stMany l p a) (.no 11))
      simp only [bc_eq]
      split
      · exact fStMany_le p l a
      · exact .inl ⟨_, rfl⟩
theorem subNN_eq (m n : Nat) : subNN m n = (m : Int) - (n : Int) := by
  unfold subNN
  rw [bc_eq]
  split
  · rename_i h; have := Nat.le_of_ble_eq_true h; show ((m - n : Nat) : Int) = _; omega
  · rename_i h
    have h : ¬ n ≤ m := fun e => h (Nat.ble_eq_true_of_le e)
    show Int.negSucc (n - m - 1) = _
    rw [Int.negSucc_eq]; omega
theorem fadd_eq (x y : Int) : fadd x y = x + y := by
  cases x with
  | ofNat m => cases y with
    | ofNat n => rfl
    | negSucc n => show subNN m (n + 1) = _; rw [subNN_eq, Int.negSucc_eq]; show (m : Int) - _ = (m : Int) + _; omega
  | negSucc m => cases y with
    | ofNat n => show subNN n (m + 1) = _; rw [subNN_eq, Int.negSucc_eq]; show (n : Int) - _ = _ + (n : Int); omega
    | negSucc n => show Int.negSucc (m + n + 1) = _; rw [Int.negSucc_eq, Int.negSucc_eq, Int.negSucc_eq]; omega
theorem fneg_eq (x : Int) : fneg x = -x := by
  cases x with
  | ofNat m =>
    show bc (Nat.beq m 0) (Int.ofNat 0) (Int.negSucc (m - 1)) = _
    rw [bc_eq]
    split
    · rename_i h; have := Nat.eq_of_beq_eq_true h; subst this; rfl
    · rename_i h
      have h : m ≠ 0 := fun e => h (by rw [e]; rfl)
      rw [Int.negSucc_eq]; show _ = -(m : Int); omega
  | negSucc m => rfl
theorem fleb_eq (x y : Int) : fleb x y = ileb x y := by cases x <;> cases y <;> rfl
theorem feqb_eq (x y : Int) : feqb x y = ieqb x y := by cases x <;> cases y <;> rfl
theorem fkeq_eq (k l : IntKind) : fkeq k l = kbeq k l := by cases k <;> cases l <;> rfl
theorem fwrap_eq (k : IntKind) (n : Int) : fwrap k n = wrapF k n := by cases n <;> cases k <;> rfl
theorem bnot_eq (b : Bool) : bnot b = !b := by cases b <;> rfl
theorem fIntOp_eq (op : BinOp) (k : IntKind) (x y : Int) (a : W) : fIntOp op k x y a = retO (intBin op k x y) a 21 := by
  cases op <;> first
    | rfl
    | (show OR.val _ a = OR.val _ a; simp only [fwrap_eq, fadd_eq, fneg_eq, fleb_eq, feqb_eq, bnot_eq, Int.sub_eq_add_neg]; rfl)
    | (show OR.val _ a = OR.val _ a; simp only [fwrap_eq, fadd_eq, fneg_eq, fleb_eq, feqb_eq, bnot_eq])
theorem fIntBin_le (op : BinOp) (t : TypeId) (x y : Operand) (k k' : IntKind) (m n : Int) (a : W) : Le (fIntBin k m k' n op a) (evBin op t x y (.int k m) (.int k' n) a) := by
  unfold fIntBin
  rw [fkeq_eq, fIntOp_eq]
  cases op <;> simp only [bc_eq, isShift, evBin] <;> split <;> first
    | exact .inr rfl
    | exact .inl ⟨_, rfl⟩
    | (cases intBin _ k m n <;> first | exact .inr rfl | exact .inl ⟨_, rfl⟩)
theorem fBin_le (op : BinOp) (t : TypeId) (x y : Operand) (p q : AV) (a : W) : Le (fBin p q x y t op a) (evBin op t x y p q a) := by
  cases p <;> first
    | exact .inr rfl
    | (cases q <;> first
        | exact .inr rfl
        | exact fIntBin_le op t x y _ _ _ _ a)
theorem fPick_le (c p q : AV) (a : W) : Le (fPick c p q a) (evPick c p q a) := by cases c <;> first | exact .inl ⟨_, rfl⟩ | exact .inr rfl
theorem fNilCheck_le (p : AV) (a : W) : Le (fNilCheck p a) (evNilCheck p a) := by
  cases p <;> first
    | exact .inl ⟨_, rfl⟩
    | exact .inr rfl
    | (rename_i f x y; cases f <;> first | exact .inl ⟨_, rfl⟩ | exact .inr rfl)
theorem fExtract_le (p : AV) (i : Nat) (a : W) : Le (fExtract p i a) (evExtract p i a) := by cases p <;> first | exact .inl ⟨_, rfl⟩ | exact .inr rfl
theorem fFieldAddr_le (s : TypeId) (f : Nat) (p : AV) (a : W) : Le (fFieldAddr s f p a) (evFieldAddr s f p a) := by
  unfold fFieldAddr evFieldAddr
  cases structPlace s f with
  | none => exact .inl ⟨_, rfl⟩
  | some o => cases p <;> first | exact .inl ⟨_, rfl⟩ | exact .inr rfl
theorem fNat_eq (p : AV) : fNat p = natOf p := by
  cases p <;> first | rfl | (rename_i k n; cases n <;> rfl)
theorem fKeyEq_eq (p q : AV) : fKeyEq p q = keyEq p q := by
  cases p <;> first
    | rfl
    | (cases q <;> first
        | rfl
        | (show bc (fkeq _ _) (some (feqb _ _)) none = bc (kbeq _ _) (some (ieqb _ _)) none; rw [fkeq_eq, feqb_eq]))
theorem fFind_eq (k : AV) : ∀ es : List (AV × AV), fFind es k = findA k es
  | [] => rfl
  | e :: es => by
    show fFindK (fKeyEq k e.1) e (fFind es) k = findA k (e :: es)
    rw [fKeyEq_eq]
    have ih := fFind_eq k es
    cases h : keyEq k e.1 with
    | none => simp only [findA, h]; rfl
    | some b => cases b <;> simp only [findA, h] <;> first | exact ih | rfl
theorem fAdd_eq (k v : AV) : ∀ es : List (AV × AV), fAdd es k v = es ++ [(k, v)]
  | [] => rfl
  | e :: es => by show e :: fAdd es k v = _; rw [fAdd_eq k v es]; rfl
theorem putA_new (k v : AV) : ∀ es : List (AV × AV), findA k es = some none → putA k v es = some (es ++ [(k, v)])
  | [], _ => rfl
  | e :: es, h => by
    unfold findA at h
    unfold putA
    cases hk : keyEq k e.1 with
    | none => rw [hk] at h; cases h
    | some b =>
      rw [hk] at h
      cases b with
      | true => cases h
      | false => simp only at h ⊢; rw [putA_new k v es h]; rfl
theorem fPut_le (k v : AV) (es : List (AV × AV)) : fPut es k v = none ∨ fPut es k v = putA k v es := by
  unfold fPut
  rw [fFind_eq]
  cases h : findA k es with
  | none => exact .inl rfl
  | some o => cases o with
    | none => right; rw [putA_new k v es h]; simp only [fAdd_eq]
    | some _ => exact .inr rfl
theorem fUpdate_le (t : TypeId) (m k v : AV) (a : W) : Le (fUpdate t m k v a) (evUpdate t m k v a) := by
  unfold fUpdate evUpdate
  simp only [bc_eq]
  split
  case isFalse => exact .inr rfl
  cases m <;> try exact .inl ⟨_, rfl⟩
  rename_i b
  show Le (fUpdO (wget b a) b k v a) (match wget b a with | .map es => (match putA k v es with | some es' => .val undefA (wset b (.map es') a) | none => .no 74) | .umap es => (if noneA k es = true then .val undefA (wset b (.umap (es ++ [(k, v)])) a) else .no 74) | _ => .no 75)
  cases wget b a <;> try exact .inl ⟨_, rfl⟩
  rename_i es
  show Le (match fPut es k v with | some es' => .val undefA (wset b (.map es') a) | none => .no 74) (match putA k v es with | some es' => .val undefA (wset b (.map es') a) | none => .no 74)
  rcases fPut_le k v es with h | h
  · rw [h]; exact .inl ⟨_, rfl⟩
  · rw [h]; exact .inr rfl
theorem fIndexAddr_le (t : TypeId) (x i : AV) (a : W) : Le (fIndexAddr t x i a) (evIndexAddr t x i a) := by
  unfold fIndexAddr
  cases h : elemSize t with
  | none => exact .inr rfl
  | some s =>
    unfold elemSize at h
    split at h <;> try (cases h; done)
    rename_i e hu
    show Le (fIdxN (fNat i) s x t i a) _
    rw [fNat_eq]
    unfold evIndexAddr
    rw [hu]
    cases natOf i with
    | none => exact .inl ⟨_, rfl⟩
    | some n => cases x <;> first
      | exact .inl ⟨_, rfl⟩
      | (simp only [h]; exact .inr rfl)
theorem fIndex_le (t : TypeId) (x i : AV) (a : W) : Le (fIndex t x i a) (evIndex t x i a) := by
  unfold fIndex
  cases h : isStr t with
  | false => exact .inr rfl
  | true =>
    unfold isStr at h
    split at h <;> try (cases h; done)
    rename_i hu
    show Le (fIdxSN (fNat i) x a) _
    rw [fNat_eq]
    unfold evIndex
    rw [hu]
    cases natOf i with
    | none => exact .inl ⟨_, rfl⟩
    | some n => cases x <;> first | exact .inl ⟨_, rfl⟩ | exact .inr rfl
theorem fLen_le (t : TypeId) (x : AV) (a : W) : Le (fLen t x a) (evLen t x a) := by
  unfold fLen
  cases h : isSlice t with
  | true =>
    unfold isSlice at h
    split at h <;> try (cases h; done)
    rename_i e hu
    unfold evLen
    rw [hu]
    cases x <;> first | exact .inl ⟨_, rfl⟩ | exact .inr rfl
  | false =>
    cases h : isStr t with
    | false => exact .inr rfl
    | true =>
      unfold isStr at h
      split at h <;> try (cases h; done)
      rename_i hu
      unfold evLen
      rw [hu]
      cases x <;> first | exact .inl ⟨_, rfl⟩ | exact .inr rfl
theorem fCallFn_eq (f : FuncId) (vs : List AV) (a : W) : fCallFn f vs a = callFn f vs a := by
  unfold fCallFn
  match h : externOf f with
  | 0 => rfl
  | 1 => show OR.call f vs a = _; unfold callFn; rw [h]; rfl
  | n + 2 => rfl
theorem fCallV_le (x : AV) (vs : List AV) (a : W) : Le (fCallV x vs a) (callV x vs a) := by
  cases x <;> try exact .inl ⟨_, rfl⟩
  rename_i fn p q
  cases fn <;> try exact .inr rfl
  rename_i g
  show Le (fCallFn g (lapp (lapp p vs) q) a) (callFn g ((p ++ vs) ++ q) a)
  rw [fCallFn_eq, lapp_eq, lapp_eq]
  exact .inr rfl
theorem fCallM_le (x : AV) (name : String) (vs : List AV) (a : W) : Le (fCallM x name vs a) (callM x name vs a) := by
  cases x <;> try exact .inl ⟨_, rfl⟩
  rename_i t v
  show Le (fMeth (dispatch t name) v vs a) (callM (.iface t v) name vs a)
  unfold fMeth callM
  cases h : dispatch t name with
  | none => exact .inl ⟨_, rfl⟩
  | some fo =>
    obtain ⟨f, o⟩ := fo
    cases o with
    | none => simp only [fCallFn_eq, h]; exact .inr rfl
    | some e => simp only [fCallFn_eq, h]; exact .inr rfl
theorem fBuiltin_le (b : Builtin) (ts : List TypeId) (vs : List AV) (a : W) : Le (fBuiltin b ts vs a) (evBuiltin b ts vs a) := by
  cases b <;> try exact .inr rfl
  cases ts with
  | nil => exact .inl ⟨_, rfl⟩
  | cons t ts => match vs with
    | [] => exact .inl ⟨_, rfl⟩
    | [x] => exact fLen_le t x a
    | x :: y :: r => exact .inl ⟨_, rfl⟩
theorem fOp_le (o : Op) (τ : F) (a : W) : Le (fOp o τ a) (evOp o τ a) := by
  cases o <;> try exact .inr rfl
  case pick => exact fPick_le _ _ _ a
  case insert => exact fUpdate_le _ _ _ _ a
  case load => exact fLoad_le _ _ a
  case store => exact fStore_le _ _ _ a
  case nilCheck => exact fNilCheck_le _ a
  case binOp => exact fBin_le _ _ _ _ _ _ a
  case makeFunc fn f c =>
    show Le (bc (plainFn fn) (.val (.func fn (xsAll f.toList τ) (xsAll c.toList τ)) a) (.no 175)) (bc (plainFn fn) (.val (.func fn (evXs f.toList τ) (evXs c.toList τ)) a) (.no 175))
    rw [xsAll_eq, xsAll_eq]; exact .inr rfl
  case fieldAddr => exact fFieldAddr_le _ _ _ a
  case indexAddr => exact fIndexAddr_le _ _ _ a
  case index => exact fIndex_le _ _ _ a
  case mapUpdate => exact fUpdate_le _ _ _ _ a
  case extract => exact fExtract_le _ _ a
  case call c =>
    obtain ⟨callee, args, ts⟩ := c
    cases callee with
    | value f => show Le (fCallV (evX f τ) (xsAll args.toList τ) a) _; rw [xsAll_eq]; exact fCallV_le _ _ a
    | invoke r name => show Le (fCallM (evX r τ) name (xsAll args.toList τ) a) _; rw [xsAll_eq]; exact fCallM_le _ _ _ a
    | builtin b => show Le (fBuiltin b ts.toList (xsAll args.toList τ) a) _; rw [xsAll_eq]; exact fBuiltin_le _ _ _ a
end Go.Ev
set_option linter.all false
namespace Go.Ev
/- Operations on what is known in part: sound. -/
theorem sameB_id {x y : Bool} (h : sameB x y = true) : x = y := by cases x <;> cases y <;> first | rfl | cases h
theorem SAll.nil {σ : Nat → List Int} : SAll σ [] := fun _ h => by cases h
theorem orA_ok {σ : Nat → List Int} {A B : List SA} (hA : SAll σ A) (hB : SAll σ B) : SAll σ (orA A B) := by cases A <;> assumption
theorem bytesI_bytes (l : List UInt8) : bytesI (l.map fun b => (b.toNat : Int)) = ⟨l.toArray⟩ := by
  unfold bytesI
  congr 2
  rw [List.map_map]
  conv => rhs; rw [← List.map_id l]
  apply List.map_congr_left
  intro b _
  simp
theorem bytesOk_bytes (l : List UInt8) : BytesOk (l.map fun b => (b.toNat : Int)) := by
  intro x hx
  obtain ⟨b, _, rfl⟩ := List.mem_map.1 hx
  have := b.toNat_lt
  omega
theorem bytesI_get {l : List Int} (i : Nat) (h : i < l.length) : (bytesI l).data[i]? = some (UInt8.ofNat l[i].toNat) := by
  simp [bytesI, h]
theorem bytesI_size (l : List Int) : (bytesI l).size = l.length := by simp [bytesI, ByteArray.size]
theorem byte_back {x : Int} (h : 0 ≤ x ∧ x < 256) : ((UInt8.ofNat x.toNat).toNat : Int) = x := by
  have : (UInt8.ofNat x.toNat).toNat = x.toNat % 256 := by simp
  rw [this]; omega
theorem bytesI_inj {l m : List Int} (hl : BytesOk l) (hm : BytesOk m) (h : bytesI l = bytesI m) : l = m := by
  have hlen : l.length = m.length := by rw [← bytesI_size, h, bytesI_size]
  apply List.ext_getElem hlen
  intro i h1 h2
  have e1 := bytesI_get i h1
  have e2 := bytesI_get i h2
  rw [h, e2] at e1
  have e1 : UInt8.ofNat m[i].toNat = UInt8.ofNat l[i].toNat := by injection e1
  have b1 := byte_back (hl _ (List.getElem_mem h1))
  have b2 := byte_back (hm _ (List.getElem_mem h2))
  rw [← b1, ← b2, e1]
theorem bytesI_append (l m : List Int) : bytesI l ++ bytesI m = bytesI (l ++ m) := by
  apply ByteArray.ext
  simp [bytesI]
theorem seAdd_eval (σ : Nat → List Int) (x y : SE) : (seAdd x y).eval σ = x.eval σ + y.eval σ := by
  unfold seAdd
  split
  · simp only [SE.eval]; rfl
  · simp only [SE.eval, binE]; rw [Int.add_assoc]; rfl
  · simp only [SE.eval]; omega
  · simp only [SE.eval]; omega
  · simp only [SE.eval, binE]
theorem seLen_eval (σ : Nat → List Int) : ∀ g : GE, (seLen g).eval σ = ((g.eval σ).length : Int)
  | .nil => by simp [seLen, SE.eval, GE.eval]
  | .one _ => by simp [seLen, SE.eval, GE.eval]
  | .cat x y => by simp only [seLen, seAdd_eval, seLen_eval σ x, seLen_eval σ y, GE.eval, List.length_append]; omega
  | .lit l n => by simp [seLen, SE.eval, GE.eval, bytesOf_length]
  | .s _ | .cut .. | .enc _ | .app .. => by simp only [seLen, SE.eval]
theorem lit_cat {l n l' n' : Nat} (σ : Nat → List Int) (h : n' < 256 ^ l') : (GE.lit (l + l') (n * Nat.pow 256 l' + n')).eval σ = (GE.lit l n).eval σ ++ (GE.lit l' n').eval σ := by
  simp only [GE.eval]
  rw [show Nat.pow 256 l' = 256 ^ l' from rfl, bytesOf_cat _ _ _ _ h, List.map_append]
theorem geCat_eval (σ : Nat → List Int) (x y : GE) : (geCat x y).eval σ = x.eval σ ++ y.eval σ := by
  unfold geCat
  split
  · simp only [GE.eval, List.nil_append]
  · simp only [GE.eval, List.append_nil]
  · rw [bc_eq]
    split
    · rename_i h
      exact lit_cat σ (by simpa using h)
    · simp only [GE.eval]
  · rw [bc_eq]
    split
    · rename_i h
      rw [GE.eval, lit_cat σ (by simpa using h), GE.eval, List.append_assoc]
    · simp only [GE.eval]
  · simp only [GE.eval]
theorem cellE_eval (σ : Nat → List Int) (es off : Nat) (i : SE) : (cellE es off i).eval σ = es * i.eval σ + off := by
  unfold cellE
  rw [bc_eq]
  split
  · rename_i h
    obtain rfl := Nat.eq_of_beq_eq_true h
    rw [bc_eq]
    split
    · rename_i h; obtain rfl := Nat.eq_of_beq_eq_true h; simp
    · rw [seAdd_eval]; simp only [SE.eval]; simp
  · rw [seAdd_eval]; simp only [SE.eval, binE]; rfl
variable [Gv]
section
variable {ρ : Env} {a : W} {w : World}
theorem aOf_ok {v : AV} {x : Value} (h : VRel ρ v x) : SAll Gv.σ (aOf v) := by
  cases v <;> simp only [aOf] <;> try exact SAll.nil
  · simp only [VRel] at h; exact h.1
  · rename_i g
    simp only [VRel] at h
    cases g <;> exact h.1
theorem firstAs_ok : ∀ {l : List AV} {xs : List Value}, VRels ρ l xs → SAll Gv.σ (agA.firstAs l)
  | [], _, _ => SAll.nil
  | v :: l, _, h => by
    simp only [VRels] at h
    obtain ⟨x, xs, _, h1, h2⟩ := h
    exact orA_ok (aOf_ok h1) (firstAs_ok h2)
theorem agA_ok {v : AV} {x : Value} (h : VRel ρ v x) : SAll Gv.σ (agA v) := by
  unfold agA
  split
  · simp only [VRel] at h; obtain ⟨ys, _, h⟩ := h; exact firstAs_ok h
  · exact aOf_ok h
theorem ifLt_ok {A : List SA} (hA : SAll Gv.σ A) {s : Sem Value} {x y : SE} {r : Bool} {c : Nat} {k : OR} (h : decide (x.eval Gv.σ < y.eval Gv.σ) = r → VOK ρ a w s k) : VOK ρ a w s (ifLt x y A r c k) := by
  unfold ifLt
  cases hc : seCmp true x y A with
  | none => trivial
  | some q =>
    dsimp only
    rw [bc_eq]
    split <;> try trivial
    rename_i hq
    have := seCmp_ok hA hc
    have this : decide (x.eval Gv.σ < y.eval Gv.σ) = q := this
    exact h (by rw [this, sameB_id hq])
theorem seOf_rel {v : AV} {e : SE} {x : Value} (h : seOf v = some e) (hx : VRel ρ v x) : ∃ k, knd v = some k ∧ x = .int k (e.eval Gv.σ) := by
  cases v <;> simp only [seOf] at h <;> try (cases h; done)
  · cases h; simp only [VRel] at hx; exact ⟨_, rfl, by rw [hx]; simp only [SE.eval]⟩
  · cases h; simp only [VRel] at hx; exact ⟨_, rfl, hx.2⟩
theorem strG_rel {v : AV} {g : GE} {x : Value} (h : strG v = some g) (hx : VRel ρ v x) : x = .string (bytesI (g.eval Gv.σ)) ∧ BytesOk (g.eval Gv.σ) := by
  cases v <;> simp only [strG] at h <;> try (cases h; done)
  · cases h
    simp only [VRel] at hx
    obtain ⟨h1, rfl⟩ := hx
    simp only [GE.eval]
    refine ⟨by rw [bytesI_bytes]; rfl, bytesOk_bytes _⟩
  · rename_i q
    cases q <;> simp only [] at h <;> try (cases h; done)
    cases h
    simp only [VRel] at hx
    exact ⟨hx.2.1, hx.2.2⟩
/- loads -/
theorem loadOne {t : TypeId} {p' : Value} {r : OR} (h : aggOf t = some none) (hv : VOK ρ a w (do load (← Instr.sureAddr p')) r) : VOK ρ a w (Instr.loadAt t p') r := by
  obtain ⟨d, n, hd, hs, hr⟩ := aggOf_eq h
  have hagg : aggDesc d = false := by cases e : aggDesc d with | false => rfl | true => rw [e] at hr; simp at hr
  refine hv.of_run ?_
  simp only [Instr.loadAt, loadVar, Sem.run_bind]
  cases hsr : (Instr.sureAddr p').run PP w with
  | halt h w' => rfl
  | ok ad w' => simp only [Result.andThen_ok, Sem.run_bind, run_isAgg hd, hagg, Bool.false_eq_true, if_false]
theorem loadMany {t : TypeId} {n : Nat} {p' : Value} {r : OR} (h : aggOf t = some (some n)) (hv : VOK ρ a w (do pure (.agg (← loadCells (← Instr.sureAddr p') n))) r) : VOK ρ a w (Instr.loadAt t p') r := by
  obtain ⟨d, m, hd, hs, hr⟩ := aggOf_eq h
  by_cases hagg : aggDesc d = true
  · rw [if_pos hagg] at hr
    injection hr with hr
    injection hr with hr
    subst hr
    refine hv.of_run ?_
    simp only [Instr.loadAt, loadVar, Sem.run_bind]
    cases hsr : (Instr.sureAddr p').run PP w with
    | halt h w' => rfl
    | ok ad w' => simp only [Result.andThen_ok, Sem.run_bind, run_isAgg hd, hagg, if_true, run_size hs]
  · rw [if_neg hagg] at hr
    split at hr <;> cases hr
theorem cellsAt_rel {ks : List IntKind} {g : GE} {es c : Nat} {i : SE} {A : List SA} (hA : SAll Gv.σ A) (hi : 0 ≤ i.eval Gv.σ)
    (hc : ∀ j k, ks[j]? = some k → w.cell? ⟨c, es * (i.eval Gv.σ).toNat + j, none⟩ = some (.int k ((g.eval Gv.σ).getD (es * (i.eval Gv.σ).toNat + j) 0))) :
    ∀ (n off : Nat) (l : List AV), cellsAt ks g es i A n off = some l → ∃ l' : List Value, l'.length = n ∧ VRels ρ l l' ∧ ∀ j v, l'[j]? = some v → w.cell? ⟨c, es * (i.eval Gv.σ).toNat + off + j, none⟩ = some v
  | 0, off, l, h => by cases h; exact ⟨[], rfl, by simp only [VRels], fun j v hj => by simp at hj⟩
  | n + 1, off, l, h => by
    simp only [cellsAt] at h
    split at h <;> try (cases h; done)
    rename_i k hk
    rw [nth_eq] at hk
    simp only [Option.map_eq_some_iff] at h
    obtain ⟨r, hr, rfl⟩ := h
    obtain ⟨l', h1, h2, h3⟩ := cellsAt_rel hA hi hc n (off + 1) r hr
    have e : ((cellE es off i).eval Gv.σ).toNat = es * (i.eval Gv.σ).toNat + off := by
      rw [cellE_eval]
      obtain ⟨m, hm⟩ := Int.eq_ofNat_of_zero_le hi
      rw [hm]
      show ((es : Int) * (m : Int) + (off : Int)).toNat = es * (m : Int).toNat + off
      rw [← Int.natCast_mul, ← Int.natCast_add]
      exact Int.toNat_natCast _
    refine ⟨.int k ((g.eval Gv.σ).getD (es * (i.eval Gv.σ).toNat + off) 0) :: l', by simp [h1], ?_, ?_⟩
    · simp only [VRels, VRel, rdAt, SE.eval, e]
      exact ⟨_, _, rfl, ⟨hA, rfl⟩, h2⟩
    · intro j v hj
      cases j with
      | zero => simp at hj; rw [← hj]; exact hc off k hk
      | succ j =>
        have := h3 j v (by simpa using hj)
        rw [show es * (i.eval Gv.σ).toNat + off + (j + 1) = es * (i.eval Gv.σ).toNat + (off + 1) + j by omega]
        exact this
theorem gh_cells {t : TypeId} {ks : List IntKind} {n : SE} {g : GE} {c : Nat} {i : Nat} (ho : GORel (.gh t ks n g) (w.heap[c]?)) (hi : (i : Int) < n.eval Gv.σ) :
    ∀ j k, ks[j]? = some k → w.cell? ⟨c, ks.length * i + j, none⟩ = some (.int k ((g.eval Gv.σ).getD (ks.length * i + j) 0)) := by
  obtain ⟨arr, fz, h1, h2, h3, h4, h5, _, h6⟩ := ho
  intro j k hk
  have hj : j < ks.length := (List.getElem?_eq_some_iff.1 hk).1
  have hlt : ks.length * i + j < (g.eval Gv.σ).length := by
    rw [h4]
    have : i + 1 ≤ (n.eval Gv.σ).toNat := by omega
    have := Nat.mul_le_mul_left ks.length this
    rw [Nat.mul_add] at this
    omega
  obtain ⟨k', q1, q2⟩ := h6 _ hlt
  rw [Nat.mul_add_mod, Nat.mod_eq_of_lt hj, hk] at q1
  injection q1 with q1
  subst q1
  rw [cell_of h1, q2]
  simp [hlt]
theorem xLoad_ok (hw : WRel ρ a w) {p : AV} {p' : Value} (hp : VRel ρ p p') (t : TypeId) (c : Nat) : VOK ρ a w (Instr.loadAt t p') (xLoad t p a c) := by
  unfold xLoad
  split <;> try trivial
  · rename_i b es i off A
    simp only [VRel] at hp
    obtain ⟨hA, c0, hc, hi, rfl⟩ := hp
    split <;> try trivial
    rename_i t' ks n g hg
    rw [bc_eq]
    split <;> try trivial
    rename_i hes
    have hes := Nat.eq_of_beq_eq_true hes
    rw [llen_eq] at hes
    subst hes
    refine ifLt_ok hA fun hlt => ?_
    have hlt : i.eval Gv.σ < n.eval Gv.σ := by simpa using hlt
    have ho : GORel (.gh t' ks n g) (w.heap[c0]?) := hw.block hg (by simp) hc
    have hcl := gh_cells (i := (i.eval Gv.σ).toNat) ho (by omega)
    split
    · rename_i ha
      split <;> try trivial
      rename_i v hv
      obtain ⟨l', h1, h2, h3⟩ := cellsAt_rel (ρ := ρ) hA hi hcl _ _ _ hv
      simp only [VRels] at h2
      obtain ⟨x, xs, rfl, h4, _⟩ := h2
      refine loadOne ha (VOK.here hw (v' := x) ?_ h4)
      have := h3 0 x (by simp)
      simp only [Nat.add_zero] at this
      simp [Instr.sureAddr, this]
    · rename_i m ha
      split <;> try trivial
      rename_i l hl
      obtain ⟨l', h1, h2, h3⟩ := cellsAt_rel (ρ := ρ) hA hi hcl _ _ _ hl
      refine loadMany ha (VOK.here hw (v' := .agg l'.toArray) ?_ (by simp only [VRel]; exact ⟨_, rfl, by simpa using h2⟩))
      simp [Instr.sureAddr, run_cells h1 h3]
    · trivial
  · rename_i b o i A
    simp only [VRel] at hp
    obtain ⟨hA, c0, hc, hi, rfl⟩ := hp
    split <;> try trivial
    rename_i o' n g hg
    rw [bc_eq]
    split <;> try trivial
    rename_i hoo
    have := seEq_eq _ _ hoo
    subst this
    refine ifLt_ok hA fun hlt => ?_
    have hlt : i.eval Gv.σ < n.eval Gv.σ := by simpa using hlt
    obtain ⟨arr, t', fz, e1, e2, e3, e4⟩ := (show GORel (.rh o n g) (w.heap[c0]?) from hw.block hg (by simp) hc)
    split <;> try trivial
    rename_i ha
    have hl : (i.eval Gv.σ).toNat < (g.eval Gv.σ).length := by omega
    refine loadOne ha (VOK.here hw (v' := .int .i64 ((g.eval Gv.σ).getD (i.eval Gv.σ).toNat 0)) ?_ (by simp only [VRel]; exact ⟨hA, by simp only [rdAt, SE.eval]⟩))
    have h5 : w.cell? ⟨c0, (o.eval Gv.σ).toNat + (i.eval Gv.σ).toNat, none⟩ = some (.int .i64 ((g.eval Gv.σ).getD (i.eval Gv.σ).toNat 0)) := by
      rw [cell_of e1, e4 _ hl]
      simp [hl]
    simp [Instr.sureAddr, h5]
theorem xIndexAddr_ok (hw : WRel ρ a w) {t : TypeId} {x i : AV} {x' i' : Value} (hx : VRel ρ x x') (hi : VRel ρ i i') (c : Nat) : VOK ρ a w (Instr.indexAt t x' i') (xIndexAddr t x i a c) := by
  unfold xIndexAddr
  split <;> try trivial
  · rename_i b es n A e el hse hu
    obtain ⟨k, _, rfl⟩ := seOf_rel hse hi
    have hAi := aOf_ok hi
    simp only [VRel] at hx
    obtain ⟨hA, c0, cap', hc, h1, h2, h3, rfl⟩ := hx
    rw [bc_eq]
    split <;> try trivial
    split <;> try trivial
    rename_i s hs
    rw [bc_eq]
    split <;> try trivial
    rename_i hes
    obtain rfl := Nat.eq_of_beq_eq_true hes
    refine ifLt_ok (orA_ok hA hAi) fun hlo => ifLt_ok (orA_ok hA hAi) fun hhi => ?_
    have hlo : 0 ≤ e.eval Gv.σ := by have := of_decide_eq_false hlo; simp only [SE.eval] at this; omega
    have hhi : e.eval Gv.σ < n.eval Gv.σ := by simpa using hhi
    refine VOK.here hw (v' := .pointer (some ⟨c0, 0 + (e.eval Gv.σ).toNat * s, none⟩)) ?_ ?_
    · have hb : (0 : Int) ≤ e.eval Gv.σ ∧ e.eval Gv.σ < ((n.eval Gv.σ).toNat : Int) := ⟨hlo, by omega⟩
      simp only [Instr.indexAt, Sem.run_bind, asIntOf, Sem.run_pure, Result.andThen_ok, run_und hu, hb, and_self, if_true, Sem.run_bind, run_size hs, addr_add]
    · simp only [VRel]
      exact ⟨orA_ok hA hAi, c0, hc, hlo, by simp [Nat.mul_comm]⟩
  · rename_i b o n A e el hse hu
    obtain ⟨k, _, rfl⟩ := seOf_rel hse hi
    have hAi := aOf_ok hi
    simp only [VRel] at hx
    obtain ⟨hA, c0, cap', hc, h1, h2, rfl⟩ := hx
    split <;> try trivial
    rename_i hs
    refine ifLt_ok (orA_ok hA hAi) fun hlo => ifLt_ok (orA_ok hA hAi) fun hhi => ?_
    have hlo : 0 ≤ e.eval Gv.σ := by have := of_decide_eq_false hlo; simp only [SE.eval] at this; omega
    have hhi : e.eval Gv.σ < n.eval Gv.σ := by simpa using hhi
    refine VOK.here hw (v' := .pointer (some ⟨c0, (o.eval Gv.σ).toNat + (e.eval Gv.σ).toNat * 1, none⟩)) ?_ ?_
    · have hb : (0 : Int) ≤ e.eval Gv.σ ∧ e.eval Gv.σ < ((n.eval Gv.σ).toNat : Int) := ⟨hlo, by omega⟩
      simp only [Instr.indexAt, Sem.run_bind, asIntOf, Sem.run_pure, Result.andThen_ok, run_und hu, hb, and_self, if_true, Sem.run_bind, run_size hs, addr_add]
    · simp only [VRel]
      exact ⟨orA_ok hA hAi, c0, hc, hlo, by simp⟩
theorem xIndex_ok (hw : WRel ρ a w) {t : TypeId} {x i : AV} {x' i' : Value} (hx : VRel ρ x x') (hi : VRel ρ i i') (c : Nat) : VOK ρ a w (Instr.index t x' i') (xIndex t x i a c) := by
  unfold xIndex
  split <;> try trivial
  rename_i g e hsg hse hu
  obtain ⟨k, _, rfl⟩ := seOf_rel hse hi
  have hAi := orA_ok (aOf_ok hx) (aOf_ok hi)
  obtain ⟨rfl, hb⟩ := strG_rel hsg hx
  refine ifLt_ok hAi fun hlo => ifLt_ok hAi fun hhi => ?_
  have hlo : 0 ≤ e.eval Gv.σ := by have := of_decide_eq_false hlo; simp only [SE.eval] at this; omega
  rw [seLen_eval] at hhi
  have hhi : e.eval Gv.σ < ((g.eval Gv.σ).length : Int) := by simpa using hhi
  have hlt : (e.eval Gv.σ).toNat < (g.eval Gv.σ).length := by omega
  refine VOK.here hw (v' := .int .u8 ((g.eval Gv.σ).getD (e.eval Gv.σ).toNat 0)) ?_ (by simp only [VRel]; exact ⟨hAi, rfl⟩)
  have hg : (bytesI (g.eval Gv.σ))[(e.eval Gv.σ).toNat]? = some (UInt8.ofNat (g.eval Gv.σ)[(e.eval Gv.σ).toNat].toNat) := bytesI_get _ hlt
  simp only [Instr.index, Sem.run_bind, asIntOf, Sem.run_pure, Result.andThen_ok, run_und hu, hlo, if_true]
  rw [hg]
  simp only [Sem.run_pure]
  have := byte_back (hb _ (List.getElem_mem hlt))
  rw [this]
  simp [hlt]
end
end Go.Ev
set_option linter.all false
namespace Go.Ev
variable [Gv]
/- Operations on what is known in part: sound (strings, integers, maps, loops over strings, appends). -/
section
variable {ρ : Env} {a : W} {w : World}
theorem ofLt {x y : Int} {r : Bool} (h : decide (x < y) = r) : (r = true → x < y) ∧ (r = false → ¬ x < y) := by subst h; exact ⟨of_decide_eq_true, of_decide_eq_false⟩
theorem beq_bytesI {l m : List Int} (hl : BytesOk l) (hm : BytesOk m) : ((bytesI l).toList == (bytesI m).toList) = decide (l = m) := by
  rw [Bool.eq_iff_iff, beq_iff_eq, decide_eq_true_eq]
  constructor
  · intro e
    refine bytesI_inj hl hm ?_
    have e1 : (bytesI l).toList = (l.map fun x => UInt8.ofNat x.toNat) := by unfold bytesI; rw [ByteArray.toList_mk]
    have e2 : (bytesI m).toList = (m.map fun x => UInt8.ofNat x.toNat) := by unfold bytesI; rw [ByteArray.toList_mk]
    rw [e1, e2] at e
    unfold bytesI
    rw [e]
  · intro e; rw [e]
theorem eqg_cmp {σ : Nat → List Int} {g h : GE} {A : List SA} {r : Bool} (hA : SAll σ A) (hr : seCmp false (.eqg g h) (.c 1) A = some r) : decide (g.eval σ = h.eval σ) = r := by
  have := seCmp_ok hA hr
  have this : decide ((SE.eqg g h).eval σ = (SE.c 1).eval σ) = r := this
  rw [← this]
  simp only [SE.eval]
  by_cases e : g.eval σ = h.eval σ <;> simp [e]
theorem xStrBin_ok (hw : WRel ρ a w) {op : BinOp} {t : TypeId} {x y : Operand} {g h : GE} {A : List SA} (hA : SAll Gv.σ A) (hg : BytesOk (g.eval Gv.σ)) (hh : BytesOk (h.eval Gv.σ)) (c : Nat) :
    VOK ρ a w (do eqGuard op t x y (.string (bytesI (g.eval Gv.σ))) (.string (bytesI (h.eval Gv.σ))); binOp op t (.string (bytesI (g.eval Gv.σ))) (.string (bytesI (h.eval Gv.σ)))) (xStrBin op g h A a c) := by
  have hgd := fun op => guard_num (w := w) (op := op) (t := t) (x := x) (y := y) (b' := .string (bytesI (g.eval Gv.σ))) (c' := .string (bytesI (h.eval Gv.σ))) (by simp) (by simp)
  unfold xStrBin
  split <;> try trivial
  · refine ifLt_ok hA fun hlt => ?_
    rw [seLen_eval, geCat_eval] at hlt
    have hlt := (ofLt hlt).2 rfl
    simp only [SE.eval] at hlt
    refine VOK.here hw (v' := .string (bytesI (g.eval Gv.σ) ++ bytesI (h.eval Gv.σ))) ?_ ?_
    · have : ¬ (((bytesI (g.eval Gv.σ)).size + (bytesI (h.eval Gv.σ)).size : Nat) : Int) > IntKind.i64.max := by
        rw [bytesI_size, bytesI_size]
        simp [IntKind.max, IntKind.bits, IntKind.signed]
        simp at hlt; omega
      simp only [Sem.run_bind, hgd, Result.andThen_ok]
      simp only [binOp, Op.stringOp, this, if_false]
      rfl
    · simp only [VRel]
      refine ⟨hA, by rw [bytesI_append, geCat_eval], ?_⟩
      rw [geCat_eval]
      intro z hz
      rcases List.mem_append.1 hz with e | e
      · exact hg z e
      · exact hh z e
  · cases hr : seCmp false (.eqg g h) (.c 1) A with
    | none => trivial
    | some r =>
      refine VOK.here hw (v' := .bool r) ?_ (rel_bool rfl)
      simp only [Sem.run_bind, hgd, Result.andThen_ok]
      rw [binOp_string_eql, beq_bytesI hg hh, eqg_cmp hA hr]
      rfl
  · cases hr : seCmp false (.eqg g h) (.c 1) A with
    | none => trivial
    | some r =>
      refine VOK.here hw (v' := .bool (!r)) ?_ (rel_bool rfl)
      simp only [Sem.run_bind, hgd, Result.andThen_ok]
      rw [binOp_string_neq, beq_bytesI hg hh, eqg_cmp hA hr]
      rfl
theorem xBits_ok (hw : WRel ρ a w) {op : BinOp} {t : TypeId} {k : IntKind} {e f : SE} {A : List SA} (hA : SAll Gv.σ A) (c : Nat) :
    VOK ρ a w (binOp op t (.int k (e.eval Gv.σ)) (.int k (f.eval Gv.σ))) (xBits op k e f A a c) := by
  unfold xBits
  split <;> try trivial
  all_goals
    refine VOK.here hw (v' := .int k _) ?_ (by simp only [VRel]; exact ⟨hA, rfl⟩)
    simp only [binOp, ne_eq, not_true_eq_false, if_false, SE.eval, binE]
    exact bitsSlow_run rfl
theorem xShift_ok (hw : WRel ρ a w) {op : BinOp} {t : TypeId} {k k' : IntKind} {e f : SE} {A : List SA} (hA : SAll Gv.σ A) (c : Nat) :
    VOK ρ a w (binOp op t (.int k (e.eval Gv.σ)) (.int k' (f.eval Gv.σ))) (xShift op k e f A a c) := by
  unfold xShift
  split <;> try trivial
  all_goals
    refine ifLt_ok hA fun hlt => ?_
    have hlt := (ofLt hlt).2 rfl
    simp only [SE.eval] at hlt
    refine VOK.here hw (v' := .int k _) ?_ (by simp only [VRel]; exact ⟨hA, rfl⟩)
    simp [binOp, Op.shift, hlt, SE.eval, binE]
theorem xEqIn_run (hw : WRel ρ a w) {A : List SA} (hA : SAll Gv.σ A) : ∀ (d : Nat) (t : TypeId) (x y : AV) (r : Bool) (x' y' : Value), xEqIn a A d t x y = some r → VRel ρ x x' → VRel ρ y y' → EqRuns w (d + 8) t x' y' r := by
  intro d
  induction d with
  | zero => intro t x y r x' y' h; cases h
  | succ d ih =>
    intro t x y r x' y' h hx hy D hD
    unfold xEqIn at h
    split at h
    · rename_i ht
      split at h <;> try (cases h; done)
      rename_i e f k k' he hf hk hk'
      rw [bc_eq] at h
      split at h <;> try (cases h; done)
      rename_i hkk
      obtain rfl := (kbeq_iff _ _).1 hkk
      obtain ⟨k1, e1, rfl⟩ := seOf_rel he hx
      obtain ⟨k2, e2, rfl⟩ := seOf_rel hf hy
      rw [hk] at e1; cases e1
      rw [hk'] at e2; cases e2
      have := seCmp_ok hA h
      have this : decide (e.eval Gv.σ = f.eval Gv.σ) = r := this
      obtain ⟨D, rfl⟩ : ∃ E, D = E + 1 := ⟨D - 1, by omega⟩
      simp only [Op.equalIn, Sem.run_bind, run_und ht, Result.andThen_ok, Sem.run_pure, int_beq, this]
      first | rfl | simp
    · rename_i ht
      split at h <;> try (cases h; done)
      rename_i g f hg hf
      obtain ⟨rfl, q1⟩ := strG_rel hg hx
      obtain ⟨rfl, q2⟩ := strG_rel hf hy
      obtain ⟨D, rfl⟩ : ∃ E, D = E + 1 := ⟨D - 1, by omega⟩
      simp only [Op.equalIn, Sem.run_bind, run_und ht, Result.andThen_ok, beq_toListBytes, beq_bytesI q1 q2, eqg_cmp hA h, Sem.run_pure]
    · rename_i fs ht
      split at h <;> try (cases h; done)
      rename_i xs ys
      rw [bc_eq] at h
      split at h <;> try (cases h; done)
      rename_i hst
      simp only [VRel] at hx hy
      obtain ⟨xs', rfl, hx⟩ := hx
      obtain ⟨ys', rfl, hy⟩ := hy
      obtain ⟨D, rfl⟩ : ∃ E, D = E + 1 := ⟨D - 1, by omega⟩
      exact eqStruct_run (undOf_eq ht) (by simpa using hst) (eqFields_run (d := d + 8) ih hx hy fs.toList r h D (by omega))
    · exact eqIn_run hw 8 t x y r x' y' h hx hy D (by omega)
theorem xEqAgg_ok (hw : WRel ρ a w) {r : Bool} {t : TypeId} {x y : Operand} {b c : AV} {b' c' : Value} (hg : (isAg b && isAg c && guardOk t x y b c) = true) (hb : VRel ρ b b') (hc : VRel ρ c c') (n : Nat) :
    VOK ρ a w (do eqGuard (bc r BinOp.eql BinOp.neq) t x y b' c'; binOp (bc r BinOp.eql BinOp.neq) t b' c') (xEqAgg r t b c a n) := by
  simp only [Bool.and_eq_true] at hg
  obtain ⟨⟨g1, g2⟩, g3⟩ := hg
  unfold xEqAgg
  have hA := orA_ok (agA_ok hb) (agA_ok hc)
  split
  · rename_i q hq
    have hrun := xEqIn_run hw hA 3 t b c q b' c' hq hb hc 10000 (by omega)
    have hgu := fun op => guard_run (w := w) (op := op) g3 hb hc (by rintro rfl; cases g1) (by rintro rfl; cases g2)
    cases b <;> first | (cases g1; done) | skip
    cases c <;> first | (cases g2; done) | skip
    simp only [VRel] at hb hc
    obtain ⟨xs, rfl, _⟩ := hb
    obtain ⟨ys, rfl, _⟩ := hc
    cases r
    · refine VOK.here hw (v' := .bool (!q)) ?_ (rel_bool rfl)
      simp only [bc_false, Sem.run_bind, hgu, Result.andThen_ok]
      show (do pure (Value.bool (!(← Op.equal t (.agg xs) (.agg ys)))) : Sem Value).run PP w = _
      simp only [Op.equal, Op.maxDepth, Sem.run_bind, hrun, Result.andThen_ok, Sem.run_pure]
    · refine VOK.here hw (v' := .bool q) ?_ (rel_bool rfl)
      simp only [bc_true, Sem.run_bind, hgu, Result.andThen_ok]
      show (do pure (Value.bool (← Op.equal t (.agg xs) (.agg ys))) : Sem Value).run PP w = _
      simp only [Op.equal, Op.maxDepth, Sem.run_bind, hrun, Result.andThen_ok, Sem.run_pure]
  · split
    · split <;> trivial
    · trivial
theorem xBin_ok (hw : WRel ρ a w) {op : BinOp} {t : TypeId} {x y : Operand} {b c : AV} {b' c' : Value} (hb : VRel ρ b b') (hc : VRel ρ c c') (n : Nat) :
    VOK ρ a w (do eqGuard op t x y b' c'; binOp op t b' c') (xBin op t x y b c a n) := by
  unfold xBin
  have hA := orA_ok (aOf_ok hb) (aOf_ok hc)
  split
  · rename_i g h hg hh
    obtain ⟨rfl, q1⟩ := strG_rel hg hb
    obtain ⟨rfl, q2⟩ := strG_rel hh hc
    exact xStrBin_ok hw hA q1 q2 n
  · split
    · rename_i e f k k' he hf hk hk'
      obtain ⟨k1, e1, rfl⟩ := seOf_rel he hb
      obtain ⟨k2, e2, rfl⟩ := seOf_rel hf hc
      rw [hk] at e1; cases e1
      rw [hk'] at e2; cases e2
      have hgd := guard_num (w := w) (op := op) (t := t) (x := x) (y := y) (b' := .int k (e.eval Gv.σ)) (c' := .int k' (f.eval Gv.σ)) (by simp) (by simp)
      rw [bc_eq]
      split
      · exact (xShift_ok (t := t) (k' := k') hw hA n).of_run (by simp only [Sem.run_bind, hgd, Result.andThen_ok])
      · rw [bc_eq]
        split <;> try trivial
        rename_i hkk
        obtain rfl := (kbeq_iff _ _).1 hkk
        exact (xBits_ok (t := t) hw hA n).of_run (by simp only [Sem.run_bind, hgd, Result.andThen_ok])
    · rw [bc_eq]
      split <;> try trivial
      rename_i hg
      split <;> try trivial
      · exact xEqAgg_ok (r := true) hw hg hb hc n
      · exact xEqAgg_ok (r := false) hw hg hb hc n
theorem xConv_ok (hw : WRel ρ a w) {src dst : TypeId} {x : AV} {x' : Value} (hx : VRel ρ x x') (c : Nat) : VOK ρ a w (convert src dst x') (xConv src dst x a c) := by
  unfold xConv
  split <;> try trivial
  · rename_i d k k' e A hs hd
    simp only [VRel] at hx; obtain ⟨hA, rfl⟩ := hx
    refine VOK.here hw (v' := .int k (k.wrap (e.eval Gv.σ))) ?_ (by simp only [VRel]; exact ⟨hA, by simp [SE.eval, binE]⟩)
    simp only [convert, Sem.run_bind, run_und hs, run_und hd, Result.andThen_ok]
    cases d <;> simp only [Conv.intToInt, Sem.run_pure]
  · rename_i d k e A hs hd
    simp only [VRel] at hx; obtain ⟨hA, rfl⟩ := hx
    refine VOK.here hw (v' := .string (Utf8.encode (e.eval Gv.σ))) ?_ ?_
    · simp only [convert, Sem.run_bind, run_und hs, run_und hd, Result.andThen_ok]
      cases d <;> simp only [Conv.intToString, Sem.run_pure]
    · simp only [VRel]
      exact ⟨hA, by simp only [GE.eval]; rw [bytesI_bytes], by simp only [GE.eval]; exact bytesOk_bytes _⟩
  · rename_i d g A hs hd
    have hx0 := hx
    simp only [VRel] at hx; obtain ⟨hA, rfl, hb⟩ := hx
    refine VOK.here hw (v' := .string (bytesI (g.eval Gv.σ))) ?_ hx0
    simp only [convert, Sem.run_bind, run_und hs, run_und hd, Result.andThen_ok]
    cases d <;> simp only [Sem.run_pure]
theorem bndE_run {o : Option AV} {o' : Option Value} {d e : SE} (h : bndE o d = some e) (ho : OVRel ρ o o') : SAll Gv.σ (aOfO o) ∧ ((o' = none ∧ e = d) ∨ ∃ k, o' = some (.int k (e.eval Gv.σ))) := by
  cases o with
  | none => simp only [OVRel] at ho; subst ho; cases h; exact ⟨SAll.nil, .inl ⟨rfl, rfl⟩⟩
  | some v =>
    simp only [OVRel] at ho; obtain ⟨v', rfl, hv⟩ := ho
    obtain ⟨k, _, rfl⟩ := seOf_rel h hv
    exact ⟨aOf_ok hv, .inr ⟨k, rfl⟩⟩
theorem bytesI_extract (l : List Int) (lo hi : Nat) : (bytesI l).extract lo hi = bytesI ((l.take hi).drop lo) := by
  apply ByteArray.ext
  simp only [bytesI, ByteArray.data_extract]
  apply Array.toList_inj.1
  simp [List.map_drop, List.map_take, List.drop_take]
theorem xSlice_ok (hw : WRel ρ a w) {t : TypeId} {x : AV} {x' : Value} {lo hi mx : Option AV} {lo' hi' mx' : Option Value} (hx : VRel ρ x x') (hlo : OVRel ρ lo lo') (hhi : OVRel ρ hi hi') (hmx : OVRel ρ mx mx') (c : Nat) :
    VOK ρ a w (Instr.sliceAt t x' lo' hi' mx') (xSlice t x lo hi mx a c) := by
  unfold xSlice
  split <;> try trivial
  rename_i g l hu hg hl
  simp only [OVRel] at hmx
  subst hmx
  split <;> try trivial
  rename_i h hh
  obtain ⟨a1, b1⟩ := bndE_run hl hlo
  obtain ⟨a2, b2⟩ := bndE_run hh hhi
  have hA := orA_ok (aOf_ok hx) (orA_ok a1 a2)
  obtain ⟨rfl, hb⟩ := strG_rel hg hx
  refine ifLt_ok hA fun h1 => ifLt_ok hA fun h2 => ifLt_ok hA fun h3 => ?_
  have h1 := (ofLt h1).2 rfl
  have h2 := (ofLt h2).2 rfl
  have h3 := (ofLt h3).2 rfl
  rw [seLen_eval] at h3
  simp only [SE.eval] at h1
  generalize hle : l.eval Gv.σ = L at *
  generalize hhe : h.eval Gv.σ = H at *
  refine VOK.here hw (v' := .string ((bytesI (g.eval Gv.σ)).extract L.toNat H.toNat)) ?_ ?_
  · have p1 : (0 : Int) ≤ L ∧ L ≤ (H.toNat : Int) := ⟨by omega, by omega⟩
    have p2 : (0 : Int) ≤ H ∧ H ≤ ((bytesI (g.eval Gv.σ)).size : Int) := ⟨by omega, by rw [bytesI_size]; omega⟩
    have e1 : lo' = none → L = 0 := by
      intro e
      rcases b1 with ⟨_, rfl⟩ | ⟨k, q⟩
      · rw [← hle]; simp only [SE.eval]
      · rw [e] at q; cases q
    have e2 : hi' = none → H = ((bytesI (g.eval Gv.σ)).size : Int) := by
      intro e
      rcases b2 with ⟨_, rfl⟩ | ⟨k, q⟩
      · rw [← hhe, seLen_eval, bytesI_size]
      · rw [e] at q; cases q
    have hbounds : (Instr.sliceBounds false (bytesI (g.eval Gv.σ)).size (bytesI (g.eval Gv.σ)).size lo' hi' none).run PP w = .ok (L.toNat, H.toNat, (bytesI (g.eval Gv.σ)).size) w := by
      rcases b1 with ⟨rfl, _⟩ | ⟨k, rfl⟩ <;> rcases b2 with ⟨rfl, _⟩ | ⟨k', rfl⟩
      · have q1 := e1 rfl; have q2 := e2 rfl
        simp only [Instr.sliceBounds, Sem.run_bind, Sem.run_pure, Result.andThen_ok, q1, q2, Int.toNat_natCast, Int.toNat_zero]
      · have q1 := e1 rfl
        simp only [Instr.sliceBounds, Instr.sliceBound, Sem.run_bind, asIntOf, Sem.run_pure, Result.andThen_ok, p2, and_self, if_true, q1, Int.toNat_zero]
      · have q2 := e2 rfl
        have p3 : L ≤ ((bytesI (g.eval Gv.σ)).size : Int) := by omega
        simp only [Instr.sliceBounds, Instr.sliceBound, Sem.run_bind, asIntOf, Sem.run_pure, Result.andThen_ok, p1.1, p3, and_self, if_true, q2, Int.toNat_natCast]
      · simp only [Instr.sliceBounds, Instr.sliceBound, Sem.run_bind, asIntOf, Sem.run_pure, Result.andThen_ok, p1, p2, and_self, if_true]
    simp only [Instr.sliceAt, Sem.run_bind, run_und hu, Result.andThen_ok, Instr.slice, Option.isSome_none, Bool.false_eq_true, if_false, hbounds, Sem.run_pure]
  · simp only [VRel]
    refine ⟨hA, ?_, ?_⟩
    · rw [bytesI_extract]; simp only [GE.eval, hle, hhe]
    · simp only [GE.eval, hle, hhe]
      exact fun z hz => hb z (List.mem_of_mem_take (List.mem_of_mem_drop hz))
theorem xLen_ok (hw : WRel ρ a w) {t ty : TypeId} {ts : Array TypeId} {x : AV} {x' : Value} (h0 : ts[0]? = some t) (hx : VRel ρ x x') (c : Nat) : VOK ρ a w (Builtin.len_ ts ty #[x']) (xLen t x a c) := by
  unfold xLen
  split <;> try trivial
  · rename_i g A hu
    simp only [VRel] at hx; obtain ⟨hA, rfl, hb⟩ := hx
    refine VOK.here hw (v' := .int .i64 ((g.eval Gv.σ).length : Int)) ?_ (by simp only [VRel]; exact ⟨hA, by rw [seLen_eval]⟩)
    simp only [Builtin.len_, h0, List.getElem?_toArray, List.getElem?_cons_zero, Sem.run_bind, run_und hu, Result.andThen_ok, bytesI_size, Sem.run_pure]; rfl
  · rename_i e b es n A hu
    simp only [VRel] at hx; obtain ⟨hA, c0, cap', hc, h1, h2, h3, rfl⟩ := hx
    refine VOK.here hw (v' := .int .i64 ((n.eval Gv.σ).toNat : Int)) ?_ (by simp only [VRel]; exact ⟨hA, by rw [Int.toNat_of_nonneg h1]⟩)
    simp only [Builtin.len_, h0, List.getElem?_toArray, List.getElem?_cons_zero, Sem.run_bind, run_und hu, Result.andThen_ok, Sem.run_pure]; rfl
  · rename_i e b o n A hu
    simp only [VRel] at hx; obtain ⟨hA, c0, cap', hc, h1, h2, rfl⟩ := hx
    refine VOK.here hw (v' := .int .i64 ((n.eval Gv.σ).toNat : Int)) ?_ (by simp only [VRel]; exact ⟨hA, by rw [Int.toNat_of_nonneg h1]⟩)
    simp only [Builtin.len_, h0, List.getElem?_toArray, List.getElem?_cons_zero, Sem.run_bind, run_und hu, Result.andThen_ok, Sem.run_pure]; rfl
theorem xRange_ok (hw : WRel ρ a w) {t : TypeId} {x : AV} {x' : Value} (hx : VRel ρ x x') (c : Nat) : VOK ρ a w (Instr.range t x') (xRange t x a c) := by
  unfold xRange
  split <;> try trivial
  rename_i g A hu
  simp only [VRel] at hx
  obtain ⟨hA, rfl, hb⟩ := hx
  refine wnew_ok hw (obj := .stringIter (bytesI (g.eval Gv.σ)) 0) (f' := fun c => .pointer (some ⟨c, 0, none⟩)) ⟨hA, by simp only [SE.eval]; rfl, by simp only [SE.eval]; omega, hb⟩ ?_ ?_
  · intro ρ' k c hk; simp only [ptr0, VRel]; exact ⟨c, hk, rfl⟩
  · simp only [Instr.range, Sem.run_bind, run_und hu, Result.andThen_ok, Sem.run_pure, run_newObj]; rfl
theorem xNext_ok (hw : WRel ρ a w) {it : AV} {it' : Value} {s : Bool} {t : TypeId} (hi : VRel ρ it it') (n : Nat) : VOK ρ a w (Instr.next it' s t) (xNext it s a n) := by
  unfold xNext
  split <;> try trivial
  rename_i b
  simp only [VRel] at hi
  obtain ⟨c, hc, rfl⟩ := hi
  split <;> try trivial
  rename_i g pos A hg
  obtain ⟨hA, e1, e2, e3⟩ := (show GORel (.iter g pos A) _ from hw.block hg (by simp) hc)
  have hget := getObj_run (w := w) e1 (by simp)
  split <;> try trivial
  · rename_i hr
    have hr := seCmp_ok hA hr
    have hr : decide (pos.eval Gv.σ < (seLen g).eval Gv.σ) = true := hr
    rw [seLen_eval] at hr
    have hlt := of_decide_eq_true hr
    have hlt : (pos.eval Gv.σ).toNat < (bytesI (g.eval Gv.σ)).size := by rw [bytesI_size]; omega
    intro _
    refine ⟨ρ, _, .tuple #[.bool true, .int .i64 ((pos.eval Gv.σ).toNat : Int), .int .i32 ((Utf8.decode (bytesI (g.eval Gv.σ)) (pos.eval Gv.σ).toNat).1 : Int)], ?_, ?_, adv_setObj (obj := .stringIter (bytesI (g.eval Gv.σ)) ((pos.eval Gv.σ).toNat + (Utf8.decode (bytesI (g.eval Gv.σ)) (pos.eval Gv.σ).toNat).2)) hw (by rw [hg]; simp) (by rw [hg]; rfl) hc e1 ⟨hA, ?_, ?_, e3⟩ (by simp) (by simp) (by rw [hg]; rfl)⟩
    · simp only [Instr.next, Sem.run_bind, hget, Result.andThen_ok, hlt, if_true]
      rw [setObj_run e1 (by simp)]
      rfl
    · simp only [VRel]
      refine ⟨_, rfl, ?_⟩
      simp only [VRels]
      exact ⟨_, _, rfl, by simp only [VRel], _, _, rfl, by simp only [VRel]; exact ⟨hA, by rw [Int.toNat_of_nonneg e2]⟩, _, _, rfl, by simp only [VRel]; exact ⟨hA, rfl⟩, rfl⟩
    · rw [seAdd_eval]; simp only [SE.eval]
      congr 2
      omega
    · rw [seAdd_eval]; simp only [SE.eval]; omega
  · rename_i hr
    have hr := seCmp_ok hA hr
    have hr : decide (pos.eval Gv.σ < (seLen g).eval Gv.σ) = false := hr
    rw [seLen_eval] at hr
    have hlt := of_decide_eq_false hr
    have hlt : ¬ (pos.eval Gv.σ).toNat < (bytesI (g.eval Gv.σ)).size := by rw [bytesI_size]; omega
    refine VOK.here hw (v' := .tuple #[.bool false]) ?_ (by simp only [VRel]; exact ⟨_, rfl, by simp only [VRels]; exact ⟨_, _, rfl, by simp only [VRel], rfl⟩⟩)
    simp only [Instr.next, Sem.run_bind, hget, Result.andThen_ok, hlt, if_false, Sem.run_pure]
end
end Go.Ev
set_option linter.all false
namespace Go.Ev
variable [Gv]
/- Operations on what is known in part: sound (maps, appends, unsafe strings), and all of them. -/
section
variable {ρ : Env} {a : W} {w : World}
theorem findE_run {e : SE} {k : IntKind} {A : List SA} (hA : SAll Gv.σ A) {k0 : IntKind} : ∀ (es : List (AV × AV)) (ms : List MapEntry) (i : Nat) (r : Option AV), ERel ρ es ms → findE e k A es = .inr r →
    (match r with | none => Instr.findNow (.int k0) (.int k (e.eval Gv.σ)) ms i = some none | some v => ∃ j v', Instr.findNow (.int k0) (.int k (e.eval Gv.σ)) ms i = some (some (j, v')) ∧ VRel ρ v v')
  | [], _, i, r, he, h => by simp only [ERel] at he; subst he; simp only [findE] at h; cases h; rfl
  | p :: es, _, i, r, he, h => by
    simp only [ERel] at he
    obtain ⟨m, ms, rfl, h1, h2, h3⟩ := he
    unfold findE at h
    split at h <;> try (cases h; done)
    rename_i k' n hp
    rw [hp] at h1
    simp only [VRel] at h1
    rw [bc_eq] at h
    split at h <;> try (cases h; done)
    rename_i hk
    obtain rfl := (kbeq_iff _ _).1 hk
    have hsame : ∀ q, seCmp false e (.c n) A = some q → Instr.sameNow (.int k0) (.int k (e.eval Gv.σ)) m.key = some q := by
      intro q hq
      have := seCmp_ok hA hq
      have this : decide (e.eval Gv.σ = (SE.c n).eval Gv.σ) = q := this
      simp only [SE.eval] at this
      rw [h1]
      simp only [Instr.sameNow, if_true, int_beq]
      exact congrArg some ((decide_eq_decide.2 Iff.rfl).trans this)
    split at h <;> try (cases h; done)
    · rename_i hq
      cases h
      exact ⟨i, m.val, by simp only [Instr.findNow, hsame _ hq], h2⟩
    · rename_i hq
      have := findE_run hA (k0 := k0) es ms (i + 1) r h3 h
      cases r with
      | none => simp only [Instr.findNow, hsame _ hq]; exact this
      | some v => obtain ⟨j, v', x, y⟩ := this; exact ⟨j, v', by simp only [Instr.findNow, hsame _ hq]; exact x, y⟩
theorem mfind {g : List Int} (hg : BytesOk g) : ∀ (l : List (List Int × Int)) (ms : List MapEntry) (i : Nat), MRel l ms →
    (match l.lookup g with | none => Instr.findNow .string (.string (bytesI g)) ms i = some none | some n => ∃ j, Instr.findNow .string (.string (bytesI g)) ms i = some (some (j, .int .i64 n)))
  | [], _, i, h => by have h : _ = [] := h; subst h; rfl
  | e :: l, _, i, h => by
    obtain ⟨m, ms, rfl, h1, h2, h3, h4⟩ := h
    have ih := mfind hg l ms (i + 1) h4
    have hs : Instr.sameNow .string (.string (bytesI g)) m.key = some (decide (g = e.1)) := by
      rw [h1]
      simp only [Instr.sameNow, beq_toListBytes, beq_bytesI hg h2]
    by_cases he : g = e.1
    · have : (g == e.1) = true := by simp [he]
      simp only [List.lookup, this]
      exact ⟨i, by simp only [Instr.findNow, hs]; simp [he, h3]⟩
    · have : (g == e.1) = false := by simp [he]
      simp only [List.lookup, this]
      simp only [Instr.findNow, hs]
      simp only [he, decide_false]
      exact ih
theorem mhas_cmp {σ : Nat → List Int} {m g : GE} {A : List SA} {r : Bool} (hA : SAll σ A) (hr : seCmp false (.mhas m g) (.c 1) A = some r) : ((mapD (m.eval σ)).lookup (g.eval σ)).isSome = r := by
  have := seCmp_ok hA hr
  have this : decide ((SE.mhas m g).eval σ = (SE.c 1).eval σ) = r := this
  rw [← this]
  simp only [SE.eval]
  by_cases hq : ((mapD (m.eval σ)).lookup (g.eval σ)).isSome = true <;> simp [hq]
theorem xLookup_ok (hw : WRel ρ a w) {t : TypeId} {m k : AV} {m' k' : Value} {ok : Bool} (hm : VRel ρ m m') (hk : VRel ρ k k') (n : Nat) : VOK ρ a w (Instr.lookup t m' k' ok) (xLookup t m k ok a n) := by
  unfold xLookup
  split <;> try trivial
  rename_i b z hz
  simp only [VRel] at hm
  obtain ⟨c, hc, rfl⟩ := hm
  split <;> try trivial
  · rename_i es hg
    split <;> try trivial
    rename_i kd e A
    simp only [VRel] at hk
    obtain ⟨hA, rfl⟩ := hk
    rw [bc_eq]
    split <;> try trivial
    rename_i hp
    simp only [Bool.and_eq_true] at hp
    obtain ⟨kt, et, d, hu, hkd, hd⟩ := plainKey_eq hp.1
    have hdk : ∃ k0, d = .int k0 := by
      have := hp.2
      unfold isIntKey keyDesc at this
      rw [hu] at this
      dsimp only at this
      rw [hkd] at this
      split at this
      · rename_i e; injection e with e; exact ⟨_, e⟩
      · cases this
    obtain ⟨k0, rfl⟩ := hdk
    unfold elemZero at hz
    rw [hu] at hz
    obtain ⟨i, z', hi, hz', rfl⟩ := zeroOf_eq hz
    obtain ⟨entries, clock, e1, e2⟩ := hw.block hg (by simp) hc
    have hget := getObj_run (w := w) e1 (by simp)
    cases hf : findE e kd A es with
    | inl q => cases q <;> trivial
    | inr r =>
      have h1 := findE_run hA (k0 := k0) es entries.toList 0 r e2 hf
      cases r with
      | some v =>
        obtain ⟨j, v', h1, h2⟩ := h1
        refine lookR_ok hw h2 ?_
        simp only [Instr.lookup, Sem.run_bind, run_und hu, Result.andThen_ok, Sem.run_pure, hget, checkKey_run hkd hd, findKey_run hkd h1]
      | none =>
        refine lookR_ok hw (ofV_rel ρ z') ?_
        simp only [Instr.lookup, Sem.run_bind, run_und hu, Result.andThen_ok, Sem.run_pure, hget, checkKey_run hkd hd, findKey_run hkd h1, run_zero hi hz']
  · rename_i mg hg
    split <;> try trivial
    rename_i g hsg
    rw [bc_eq]
    split <;> try trivial
    rename_i hp
    simp only [Bool.and_eq_true] at hp
    obtain ⟨kt, et, d, hu, hkd, hd⟩ := plainKey_eq hp.1
    have hdk : d = .string := by
      have := hp.2
      unfold isStrKey keyDesc at this
      rw [hu] at this
      dsimp only at this
      rw [hkd] at this
      split at this
      · rename_i e; injection e
      · cases this
    subst hdk
    have hA := aOf_ok hk
    obtain ⟨rfl, hb⟩ := strG_rel hsg hk
    unfold elemZero at hz
    rw [hu] at hz
    obtain ⟨i, z', hi, hz', hzz⟩ := zeroOf_eq hz
    have hzr : VRel ρ (.int .i64 0) z' := by rw [hzz]; exact ofV_rel ρ z'
    obtain ⟨entries, clock, e1, e2⟩ := (show GORel (.gmap mg) _ from hw.block hg (by simp) hc)
    have hget := getObj_run (w := w) e1 (by simp)
    have hfind := mfind hb _ _ 0 e2
    split <;> try trivial
    · rename_i hr
      have hh := mhas_cmp hA hr
      cases hl : (mapD (mg.eval Gv.σ)).lookup (g.eval Gv.σ) with
      | none => rw [hl] at hh; cases hh
      | some q =>
        rw [hl] at hfind
        obtain ⟨j, hfind⟩ := hfind
        refine lookR_ok hw (v' := .int .i64 q) (by simp only [VRel, SE.eval, hl]; exact ⟨hA, rfl⟩) ?_
        simp only [Instr.lookup, Sem.run_bind, run_und hu, Result.andThen_ok, Sem.run_pure, hget, checkKey_run hkd hd, findKey_run hkd hfind]
    · rename_i hr
      have hh := mhas_cmp hA hr
      cases hl : (mapD (mg.eval Gv.σ)).lookup (g.eval Gv.σ) with
      | some q => rw [hl] at hh; cases hh
      | none =>
        rw [hl] at hfind
        refine lookR_ok hw hzr ?_
        simp only [Instr.lookup, Sem.run_bind, run_und hu, Result.andThen_ok, Sem.run_pure, hget, checkKey_run hkd hd, findKey_run hkd hfind, run_zero hi hz']
theorem mapF_more' : ∀ (n : Nat) (f : Nat) (l : List Int), l.length ≤ n → l.length ≤ f → mapF f l = mapF l.length l := by
  intro n
  induction n with
  | zero =>
    intro f l h1 h2
    have : l = [] := List.eq_nil_of_length_eq_zero (by omega)
    subst this
    cases f <;> rfl
  | succ n ih =>
    intro f l h1 h2
    match f, l, h1, h2 with
    | 0, [], _, _ => rfl
    | f + 1, [], _, _ => rfl
    | f + 1, [x], _, _ => rfl
    | f + 1, x :: k :: l, h1, h2 =>
      simp only [List.length_cons] at h1 h2
      simp only [mapF, List.length_cons]
      rw [ih f (l.drop k.toNat) (by simp; omega) (by simp; omega), ih (l.length + 1) (l.drop k.toNat) (by simp; omega) (by simp; omega)]
theorem mapF_more (f : Nat) (l : List Int) (h : l.length ≤ f) : mapF f l = mapF l.length l := mapF_more' l.length f l (Nat.le_refl _) h
theorem mapD_cons (n : Int) (g m : List Int) : mapD (n :: (g.length : Int) :: (g ++ m)) = mapD m ++ [(g, n)] := by
  unfold mapD
  simp only [List.length_cons, mapF, Int.toNat_natCast, List.take_left, List.drop_left, List.reverse_cons]
  rw [mapF_more _ m (by simp; omega)]
theorem MRel.snoc {g : List Int} {n : Int} {e : MapEntry} (h1 : e.key = .string (bytesI g)) (h2 : BytesOk g) (h3 : e.val = .int .i64 n) : ∀ (l : List (List Int × Int)) (ms : List MapEntry), MRel l ms → MRel (l ++ [(g, n)]) (ms ++ [e])
  | [], _, h => by have h : _ = [] := h; subst h; exact ⟨e, [], rfl, h1, h2, h3, rfl⟩
  | x :: l, _, h => by
    obtain ⟨m, ms, rfl, q1, q2, q3, q4⟩ := h
    exact ⟨m, ms ++ [e], rfl, q1, q2, q3, MRel.snoc h1 h2 h3 l ms q4⟩
theorem xUpdate_ok (hw : WRel ρ a w) {t : TypeId} {m k v : AV} {m' k' v' : Value} (hm : VRel ρ m m') (hk : VRel ρ k k') (hv : VRel ρ v v') (n : Nat) : UOK ρ a w (Instr.mapUpdate t m' k' v') (xUpdate t m k v a n) := by
  unfold xUpdate
  split <;> try trivial
  rename_i b
  simp only [VRel] at hm
  obtain ⟨c, hc, rfl⟩ := hm
  split <;> try trivial
  rename_i mg hg
  split <;> try trivial
  rename_i g e hsg hse hkv
  rw [bc_eq]
  split <;> try trivial
  rename_i hp
  simp only [Bool.and_eq_true] at hp
  obtain ⟨kt, et, d, hu, hkd, hd⟩ := plainKey_eq hp.1
  have hdk : d = .string := by
    have := hp.2
    unfold isStrKey keyDesc at this
    rw [hu] at this
    dsimp only at this
    rw [hkd] at this
    split at this
    · rename_i e; injection e
    · cases this
  subst hdk
  have hA := orA_ok (aOf_ok hk) (aOf_ok hv)
  obtain ⟨rfl, hb⟩ := strG_rel hsg hk
  obtain ⟨k1, e1, rfl⟩ := seOf_rel hse hv
  rw [hkv] at e1; cases e1
  obtain ⟨entries, clock, e1, e2⟩ := (show GORel (.gmap mg) _ from hw.block hg (by simp) hc)
  have hget := getObj_run (w := w) e1 (by simp)
  have hfind := mfind hb _ _ 0 e2
  split <;> try trivial
  rename_i hr
  have hh := mhas_cmp hA hr
  cases hl : (mapD (mg.eval Gv.σ)).lookup (g.eval Gv.σ) with
  | some q => rw [hl] at hh; cases hh
  | none =>
    rw [hl] at hfind
    intro _
    refine ⟨rfl, ρ, _, ?_, adv_setObj (o := .gob (.gmap (geCat (.one e) (geCat (.one (seLen g)) (geCat g mg))))) (obj := .map (entries.push { key := .string (bytesI (g.eval Gv.σ)), val := .int .i64 (e.eval Gv.σ), born := clock }) (clock + 1)) hw (by rw [hg]; simp) (by rw [hg]; rfl) hc e1 ⟨_, _, rfl, ?_⟩ (by simp) (by simp) (by rw [hg]; rfl)⟩
    · simp only [Instr.mapUpdate, Sem.run_bind, run_und hu, Result.andThen_ok, hget, checkKey_run hkd hd, findKey_run hkd hfind]
      exact setObj_run e1 (by simp)
    · rw [geCat_eval, geCat_eval, geCat_eval]
      simp only [GE.eval, seLen_eval, List.singleton_append]
      rw [mapD_cons, Array.toList_push]
      exact MRel.snoc rfl hb rfl _ _ e2
/- appends -/
theorem reads_strI {l : List Int} (hl : BytesOk l) : Reads w 1 l.length (.string (bytesI l)) (l.map fun x => Value.int .u8 x) := by
  refine ⟨by simp only [Builtin.lenOf, bytesI_size], by simp, fun W _ => ?_⟩
  simp only [Builtin.firstCells, Sem.run_pure]
  congr 1
  have e : (bytesI l).extract 0 l.length = bytesI l := by rw [bytesI_extract]; simp
  rw [e]
  unfold bytesI
  simp only [Array.map_map, List.map_toArray, List.map_map]
  congr 1
  apply List.map_congr_left
  intro x hx
  have := byte_back (hl x hx)
  show Value.int .u8 ((UInt8.ofNat x.toNat).toNat : Int) = _
  rw [this]
theorem ghAppend_ok (hw : WRel ρ a w) {t ty e : TypeId} {ts : Array TypeId} {i : TypeInfo} {z : Value} {b : K} {c m cap' : Nat} {x' : Value} {new' : List Value} {ks : List IntKind} {n n2 : SE} {g g2 : GE} {row : List Int} {A : List SA}
    (h0 : ts[0]? = some t) (hxt : xtOk ts[1]? = true) (hu : undOf t = some (.slice e)) (hi : PP.info? e = some i) (hz : i.zero = some z) (hzs : z.cells.size = i.size) (hbytes : i.bytes ≤ 1000000)
    (hg : wget b a = .gob (.gh e ks n g)) (hc : ρ b = some c) (hle : (n.eval Gv.σ).toNat ≤ cap') (hcap : cap' * i.size ≤ ρ.sz b) (hks : ks.length = i.size)
    (hr : Reads w i.size m x' new') (hn2 : n2.eval Gv.σ = n.eval Gv.σ + m) (hg2 : g2.eval Gv.σ = g.eval Gv.σ ++ row)
    (hrow : row.length = m * i.size) (hnew : ∀ (j : Nat) (h : j < row.length), ∃ k, ks[j % ks.length]? = some k ∧ new'[j]? = some (.int k row[j])) (hb : ks = [.u8] → BytesOk row) (hA : SAll Gv.σ A)
    (hsmall : (n.eval Gv.σ).toNat + m ≤ 60000) :
    VOK ρ a w (Builtin.append_ ts ty #[.slice (some ⟨c, 0, none⟩) (n.eval Gv.σ).toNat cap', x']) (wnew (.gob (.gh e ks n2 g2)) (fun k => .gv (.sl k i.size n2 A)) (wset b .none a)) := by
  obtain ⟨arr, fz, e1, e2, e3, e4, e5, e6, e7⟩ := (show GORel (.gh e ks n g) _ from hw.block hg (by simp) hc)
  generalize hN : (n.eval Gv.σ).toNat = N at *
  have hN2 : (n2.eval Gv.σ).toNat = N + m := by omega
  have hnlen : new'.length = m * i.size := hr.2.1
  have hglen : (g.eval Gv.σ).length = N * i.size := by rw [e4, hks, Nat.mul_comm]
  have hsum : N * i.size + new'.length = (N + m) * i.size := by rw [hnlen, Nat.add_mul]
  have hobj : ∀ (arr2 : Array Value) (fz2 : Nat × Nat), fz2.2 ≤ fz2.1 → (N + m) * i.size ≤ arr2.size → (∀ j, j < N * i.size → arr2[j]? = arr[j]?) → (∀ j, j < new'.length → arr2[N * i.size + j]? = new'[j]?) →
      GORel (.gh e ks n2 g2) (some (.cells arr2 e fz2)) := by
    intro arr2 fz2 q0 q1 q2 q3
    refine ⟨arr2, fz2, rfl, q0, by omega, ?_, ?_, ?_, ?_⟩
    · rw [hg2, List.length_append, hglen, hrow, hN2, hks, Nat.mul_comm i.size, Nat.add_mul]
    · rw [hg2, List.length_append, hglen, hrow, ← Nat.add_mul]; exact q1
    · intro hk
      rw [hg2]
      intro x hx
      rcases List.mem_append.1 hx with q | q
      · exact e6 hk x q
      · exact hb hk x q
    · intro j hj
      simp only [hg2, List.length_append, hglen, hrow] at hj
      by_cases hjn : j < N * i.size
      · obtain ⟨k, r1, r2⟩ := e7 j (by rw [hglen]; exact hjn)
        refine ⟨k, r1, ?_⟩
        rw [q2 j hjn, r2]
        simp only [hg2]
        rw [List.getElem_append_left (by rw [hglen]; exact hjn)]
      · obtain ⟨k, r1, r2⟩ := hnew (j - N * i.size) (by rw [hrow]; omega)
        refine ⟨k, ?_, ?_⟩
        · have : j % ks.length = (j - N * i.size) % ks.length := by
            rw [hks]
            conv => lhs; rw [show j = (j - N * i.size) + i.size * N by rw [Nat.mul_comm i.size]; omega]
            rw [Nat.add_mul_mod_self_left]
          rw [this]; exact r1
        · have := q3 (j - N * i.size) (by rw [hnlen]; omega)
          rw [show N * i.size + (j - N * i.size) = j by omega] at this
          rw [this, r2]
          simp only [hg2]
          congr 2
          rw [List.getElem_append_right (by rw [hglen]; omega)]
          simp only [hglen]
  have hsz := hw.len b c arr e fz (by rw [← wget_eq, hg]; simp) hc e1
  by_cases hroom : N + m ≤ cap'
  · have hrun := append_room (w := w) (base := some ⟨c, 0, none⟩) (sLen := N) (sCap := cap') (ty := ty) h0 hxt hu hi hr hroom
    have hfit : N * i.size + new'.length ≤ arr.size := by
      have q2 : (N + m) * i.size ≤ cap' * i.size := Nat.mul_le_mul_right _ hroom
      omega
    have hone : ∀ v ∈ new', v.oneCell' = true := by
      intro v hv
      obtain ⟨j, hj, hv⟩ := List.getElem_of_mem hv
      obtain ⟨k, _, r2⟩ := hnew j (by rw [hrow, ← hnlen]; exact hj)
      rw [List.getElem?_eq_getElem hj, hv] at r2
      injection r2 with r2
      rw [r2]; rfl
    obtain ⟨w', arr', r1, r2, r3, r4, r5, r6, r7, r8, r9⟩ := run_stores c (N * i.size) e fz new' 0 w arr e1 (by omega) (fun j x y => by omega) hone
    obtain ⟨h, nx⟩ := a
    rw [wset_eq]
    show VOK ρ (.mk h nx) w _ (bc nx.isMax (.no 1) (.val _ (.mk (hset nx _ (hset b .none h)) nx.succ)))
    rw [bc_eq]
    split
    · trivial
    · rename_i hm
      have hm : nx.isMax = false := by simpa using hm
      intro fr
      have hfr : ρ nx = none := fr nx (Nat.le_refl _) (by simp only [W.nx_mk]; rw [K.succ_num hm]; omega)
      have hg' : hget b h = .gob (.gh e ks n g) := by rw [← hg, wget_eq]; rfl
      refine ⟨upd ρ nx c (Obj.cellCount (.cells arr' e fz)), w', .slice (some ⟨c, 0, none⟩) (N + m) cap', ?_, ?_, ?_⟩
      · rw [hrun]
        simp only [addr_add, Nat.zero_add, r1, Result.andThen_ok]
      · simp only [VRel]
        refine ⟨hA, c, cap', upd_same ρ nx c _, by omega, by omega, ?_, by rw [hN2]⟩
        show cap' * i.size ≤ (upd ρ nx c (Obj.cellCount (.cells arr' e fz))).sz nx
        rw [sz_same]
        show cap' * i.size ≤ arr'.size
        omega
      · refine adv_rekey (obj := .cells arr' e fz) hw (by rw [hg']; simp) (by rw [hg']; rfl) hc hfr hm ?_ r2 r5 r6 r7 r8 r9 (by rw [hg']; rfl)
        refine hobj arr' fz e2 (by omega) ?_ ?_
        · intro j hj; rw [r4 j, if_neg (by omega)]
        · intro j hj
          rw [r4 (N * i.size + j), if_pos (by omega)]
          congr 1
          omega
  · have ho : ∀ W : World, W.heap = w.heap → (Builtin.firstCells i.size N (.slice (some ⟨c, 0, none⟩) N cap')).run PP W = .ok (arr.toList.take (N * i.size)).toArray W := by
      intro W hW
      simp only [Builtin.firstCells]
      refine run_cells (by simp; omega) (fun j v hj => ?_)
      rw [cell_heap hW, cell_of e1]
      have hjl : j < N * i.size := by have := (List.getElem?_eq_some_iff.1 hj).1; simp at this; omega
      rw [List.getElem?_take, if_pos hjl] at hj
      simpa using hj
    have hol : (arr.toList.take (N * i.size)).length = N * i.size := by simp; omega
    obtain ⟨cap, tail, q1, q3, q2⟩ := append_grow (w := w) (ty := ty) h0 hxt hu hi hz hr ho hroom hsmall hbytes hol hzs
    have hkill := adv_kill hw b (by rw [← wget_eq, hg]; rfl)
    have hk := wnew_drew (a := wset b .none a) (ρ := ρ) (f := fun b => .gv (.sl b i.size n2 A)) (o := .gob (.gh e ks n2 g2)) hkill.rel
      (obj := .cells ((arr.toList.take (N * i.size) ++ new') ++ tail).toArray e) (v' := .slice (some ⟨w.heap.size, 0, none⟩) (N + m) cap) ?_ ?_ q2
    · cases hres : wnew (.gob (.gh e ks n2 g2)) (fun b => .gv (.sl b i.size n2 A)) (wset b .none a) with
      | val v a' =>
        rw [hres] at hk
        intro fr
        obtain ⟨ρ', w', v', r1, r2, r3⟩ := hk (by rw [wset_eq]; exact fr)
        exact ⟨ρ', w', v', r1, r2, hkill.trans r3⟩
      | no => trivial
      | _ => rw [hres] at hk; exact hk
    · have hlen2 : ((arr.toList.take (N * i.size) ++ new') ++ tail).toArray.size = cap * i.size := by simpa using q3
      have : (N + m) * i.size ≤ cap * i.size := Nat.mul_le_mul_right _ q1
      refine hobj _ (0, 0) (Nat.le_refl _) (by rw [hlen2]; exact this) ?_ ?_
      · intro j hj
        simp only [List.getElem?_toArray, List.append_assoc]
        rw [List.getElem?_append_left (by omega), List.getElem?_take, if_pos hj]
        simp
      · intro j hj
        simp only [List.getElem?_toArray, List.append_assoc]
        rw [List.getElem?_append_right (by omega), List.getElem?_append_left (by omega)]
        congr 1
        omega
    · intro ρ' k hk hsz'
      simp only [VRel]
      refine ⟨hA, _, cap, hk, by omega, by omega, ?_, by rw [hN2]⟩
      rw [hsz']
      simp only [Obj.cellCount, List.size_toArray]
      omega
theorem junkAppend_ok (hw : WRel ρ a w) {t ty e : TypeId} {ts : Array TypeId} {i : TypeInfo} {z : Value} {b : K} {c m cap' : Nat} {x' : Value} {new' : List Value} {n n2 : SE} {A : List SA}
    (h0 : ts[0]? = some t) (hxt : xtOk ts[1]? = true) (hu : undOf t = some (.slice e)) (hi : PP.info? e = some i) (hz : i.zero = some z) (hzs : z.cells.size = i.size) (hbytes : i.bytes ≤ 1000000)
    (hg : wget b a = .gob (.junk e)) (hc : ρ b = some c) (hn0 : 0 ≤ n.eval Gv.σ) (hle : (n.eval Gv.σ).toNat ≤ cap') (hcap : cap' * i.size ≤ ρ.sz b)
    (hr : Reads w i.size m x' new') (hone : ∀ v ∈ new', v.oneCell' = true) (hn2 : n2.eval Gv.σ = n.eval Gv.σ + m) (hA : SAll Gv.σ A)
    (hsmall : (n.eval Gv.σ).toNat + m ≤ 60000) :
    VOK ρ a w (Builtin.append_ ts ty #[.slice (some ⟨c, 0, none⟩) (n.eval Gv.σ).toNat cap', x']) (wnew (.gob (.junk e)) (fun k => .gv (.sl k i.size n2 A)) (wset b .none a)) := by
  obtain ⟨arr, fz, e1, e2⟩ := (show GORel (.junk e) _ from hw.block hg (by simp) hc)
  generalize hN : (n.eval Gv.σ).toNat = N at *
  have hN2 : (n2.eval Gv.σ).toNat = N + m := by omega
  have hnlen : new'.length = m * i.size := hr.2.1
  have hsum : N * i.size + new'.length = (N + m) * i.size := by rw [hnlen, Nat.add_mul]
  have hsz := hw.len b c arr e fz (by rw [← wget_eq, hg]; simp) hc e1
  by_cases hroom : N + m ≤ cap'
  · have hrun := append_room (w := w) (base := some ⟨c, 0, none⟩) (sLen := N) (sCap := cap') (ty := ty) h0 hxt hu hi hr hroom
    have hfit : N * i.size + new'.length ≤ arr.size := by
      have q2 : (N + m) * i.size ≤ cap' * i.size := Nat.mul_le_mul_right _ hroom
      omega
    obtain ⟨w', arr', r1, r2, r3, r4, r5, r6, r7, r8, r9⟩ := run_stores c (N * i.size) e fz new' 0 w arr e1 (by omega) (fun j x y => by omega) hone
    obtain ⟨h, nx⟩ := a
    rw [wset_eq]
    show VOK ρ (.mk h nx) w _ (bc nx.isMax (.no 1) (.val _ (.mk (hset nx _ (hset b .none h)) nx.succ)))
    rw [bc_eq]
    split
    · trivial
    · rename_i hm
      have hm : nx.isMax = false := by simpa using hm
      intro fr
      have hfr : ρ nx = none := fr nx (Nat.le_refl _) (by simp only [W.nx_mk]; rw [K.succ_num hm]; omega)
      have hg' : hget b h = .gob (.junk e) := by rw [← hg, wget_eq]; rfl
      refine ⟨upd ρ nx c (Obj.cellCount (.cells arr' e fz)), w', .slice (some ⟨c, 0, none⟩) (N + m) cap', ?_, ?_, ?_⟩
      · rw [hrun]
        simp only [addr_add, Nat.zero_add, r1, Result.andThen_ok]
      · simp only [VRel]
        refine ⟨hA, c, cap', upd_same ρ nx c _, by omega, by omega, ?_, by rw [hN2]⟩
        show cap' * i.size ≤ (upd ρ nx c (Obj.cellCount (.cells arr' e fz))).sz nx
        rw [sz_same]
        show cap' * i.size ≤ arr'.size
        omega
      · exact adv_rekey (o := .gob (.junk e)) (obj := .cells arr' e fz) hw (by rw [hg']; simp) (by rw [hg']; rfl) hc hfr hm ⟨arr', fz, rfl, e2⟩ r2 r5 r6 r7 r8 r9 (by rw [hg']; rfl)
  · have hNs : N * i.size ≤ arr.size := by
      have : N * i.size ≤ cap' * i.size := Nat.mul_le_mul_right _ hle
      omega
    have ho : ∀ W : World, W.heap = w.heap → (Builtin.firstCells i.size N (.slice (some ⟨c, 0, none⟩) N cap')).run PP W = .ok (arr.toList.take (N * i.size)).toArray W := by
      intro W hW
      simp only [Builtin.firstCells]
      refine run_cells (by simp; omega) (fun j v hj => ?_)
      rw [cell_heap hW, cell_of e1]
      have hjl : j < N * i.size := by have := (List.getElem?_eq_some_iff.1 hj).1; simp at this; omega
      rw [List.getElem?_take, if_pos hjl] at hj
      simpa using hj
    have hol : (arr.toList.take (N * i.size)).length = N * i.size := by simp; omega
    obtain ⟨cap, tail, q1, q3, q2⟩ := append_grow (w := w) (ty := ty) h0 hxt hu hi hz hr ho hroom hsmall hbytes hol hzs
    have hkill := adv_kill hw b (by rw [← wget_eq, hg]; rfl)
    have hk := wnew_drew (a := wset b .none a) (ρ := ρ) (f := fun b => .gv (.sl b i.size n2 A)) (o := .gob (.junk e)) hkill.rel
      (obj := .cells ((arr.toList.take (N * i.size) ++ new') ++ tail).toArray e) (v' := .slice (some ⟨w.heap.size, 0, none⟩) (N + m) cap) ?_ ?_ q2
    · cases hres : wnew (.gob (.junk e)) (fun b => .gv (.sl b i.size n2 A)) (wset b .none a) with
      | val v a' =>
        rw [hres] at hk
        intro fr
        obtain ⟨ρ', w', v', r1, r2, r3⟩ := hk (by rw [wset_eq]; exact fr)
        exact ⟨ρ', w', v', r1, r2, hkill.trans r3⟩
      | no => trivial
      | _ => rw [hres] at hk; exact hk
    · exact ⟨_, (0, 0), rfl, Nat.le_refl _⟩
    · intro ρ' k hk hsz'
      simp only [VRel]
      refine ⟨hA, _, cap, hk, by omega, by omega, ?_, by rw [hN2]⟩
      rw [hsz']
      simp only [Obj.cellCount, List.size_toArray]
      omega
theorem kindsOk_rel {ks : List IntKind} {A : List SA} : ∀ {l : List AV} {l' : List Value} {i : Nat}, kindsOk ks i l = true → VRels ρ l l' → (rowOf l).eval Gv.σ = l'.map (fun v => match v with | .int _ n => n | _ => 0) ∧
    ∀ (j : Nat) (h : j < l'.length), ∃ k n, ks[(i + j) % ks.length]? = some k ∧ l'[j] = .int k n
  | [], l', i, _, hl => by
    simp only [VRels] at hl; subst hl
    exact ⟨by simp only [rowOf, GE.eval, List.map_nil], fun j h => by simp at h⟩
  | v :: l, l', i, h, hl => by
    simp only [VRels] at hl
    obtain ⟨x, xs, rfl, h1, h2⟩ := hl
    unfold kindsOk at h
    split at h <;> try (cases h; done)
    rename_i k k' hk hk'
    rw [bc_eq] at h
    split at h <;> try (cases h; done)
    rename_i hkk
    obtain rfl := (kbeq_iff _ _).1 hkk
    obtain ⟨ih1, ih2⟩ := kindsOk_rel (A := A) h h2
    rw [nth_eq, llen_eq] at hk
    have hse : ∃ e, seOf v = some e := by cases v <;> simp only [knd] at hk' <;> first | (cases hk'; done) | exact ⟨_, rfl⟩
    obtain ⟨e, he⟩ := hse
    obtain ⟨k1, e1, rfl⟩ := seOf_rel he h1
    rw [hk'] at e1; cases e1
    refine ⟨?_, ?_⟩
    · simp only [rowOf, he, geCat_eval, ih1, GE.eval, List.map_cons, List.singleton_append]
    · intro j hj
      cases j with
      | zero => exact ⟨k, _, by simpa using hk, rfl⟩
      | succ j =>
        obtain ⟨k2, n2, q1, q2⟩ := ih2 j (by simpa using hj)
        exact ⟨k2, n2, by rw [← q1]; congr 2; omega, by simpa using q2⟩
theorem wrap_u8 (x : Int) : 0 ≤ IntKind.u8.wrap x ∧ IntKind.u8.wrap x < 256 := by
  simp [IntKind.wrap, IntKind.bits, IntKind.signed]
  omega
theorem u8E_ok {A : List SA} (hA : SAll Gv.σ A) {e : SE} (h : u8E A e = true) : 0 ≤ e.eval Gv.σ ∧ e.eval Gv.σ < 256 := by
  unfold u8E at h
  split at h
  · rename_i n
    unfold inU8 at h
    split at h
    · have := Nat.le_of_ble_eq_true h
      simp only [SE.eval]
      constructor
      · simp
      · rename_i m; show ((m : Nat) : Int) < 256; omega
    · cases h
  · simp only [SE.eval, binE]; exact wrap_u8 _
  · simp only [SE.eval, binE]; exact wrap_u8 _
  · simp only [Bool.and_eq_true] at h
    obtain ⟨h1, h2⟩ := h
    have key : ∀ (x y : SE) (r : Bool), dLt x y A r = true → decide (x.eval Gv.σ < y.eval Gv.σ) = r := by
      intro x y r h
      unfold dLt isSome1 at h
      split at h
      · rename_i c hc
        have := seCmp_ok hA hc
        have this : decide (x.eval Gv.σ < y.eval Gv.σ) = c := this
        rw [this, sameB_id h]
      · cases h
    have q1 := (ofLt (key _ _ _ h1)).2 rfl
    have q2 := (ofLt (key _ _ _ h2)).1 rfl
    simp only [SE.eval] at q1 q2
    omega
theorem u8All_ok {A : List SA} (hA : SAll Gv.σ A) : ∀ {l : List AV} {l' : List Value}, u8All A l = true → VRels ρ l l' → ∀ x ∈ l'.map (fun v => match v with | .int _ n => n | _ => (0 : Int)), 0 ≤ x ∧ x < 256
  | [], _, _, hl => by simp only [VRels] at hl; subst hl; intro x hx; simp at hx
  | v :: l, _, h, hl => by
    simp only [VRels] at hl
    obtain ⟨y, ys, rfl, h1, h2⟩ := hl
    unfold u8All at h
    split at h <;> try (cases h; done)
    rename_i e he
    obtain ⟨p1, p2⟩ := bc_and.1 h
    obtain ⟨k1, e1, rfl⟩ := seOf_rel he h1
    intro x hx
    simp only [List.map_cons, List.mem_cons] at hx
    rcases hx with rfl | hx
    · exact u8E_ok hA p1
    · exact u8All_ok hA p2 h2 x hx
theorem isU8_eq {ks : List IntKind} : isU8 ks = true ↔ ks = [.u8] := by
  unfold isU8
  split
  · simp
  · rename_i h; constructor
    · intro e; cases e
    · intro e; exact absurd e (h)
theorem xAppend_ok (hw : WRel ρ a w) {t ty : TypeId} {ts : Array TypeId} {s x : AV} {s' x' : Value} (h0 : ts[0]? = some t) (hs : VRel ρ s s') (hx : VRel ρ x x') (c : Nat) : VOK ρ a w (Builtin.append_ ts ty #[s', x']) (xAppend t ts[1]? s x a c) := by
  unfold xAppend
  rw [bc_eq]
  split <;> try trivial
  rename_i hxt
  split <;> try trivial
  rename_i e b es n A hu
  split <;> try trivial
  rename_i size bytes z hsize hbytes hz
  obtain ⟨i, z', hi, hz', rfl⟩ := zeroOf_eq hz
  obtain ⟨i1, hi1, rfl⟩ := sizeOf_eq hsize
  obtain ⟨i2, hi2, rfl⟩ := bytes_eq hbytes
  rw [hi] at hi1; cases hi1
  rw [hi] at hi2; cases hi2
  rw [bc_eq]
  split <;> try trivial
  rename_i hzc
  simp only [Bool.and_eq_true, llen_eq] at hzc
  obtain ⟨⟨⟨⟨z1, z2⟩, z3⟩, z4⟩, z5⟩ := hzc
  have hzs : z'.cells.size = i.size := by
    have := VRels.length _ _ (cellsOf_rel (ofV_rel ρ z') (notTop_ne z1))
    have h2 := Nat.eq_of_beq_eq_true z2
    simp only [Array.length_toList] at this
    omega
  obtain rfl := Nat.eq_of_beq_eq_true z3
  have z5 := Nat.le_of_ble_eq_true z5
  simp only [VRel] at hs
  obtain ⟨hA, c0, cap', hc, hn0, hle, hcap, rfl⟩ := hs
  split
  · rename_i h hh
    obtain ⟨rfl, hbo⟩ := strG_rel hh hx
    have hA2 := orA_ok hA (aOf_ok hx)
    rw [bc_eq]
    split <;> try trivial
    rename_i hes
    have hes := Nat.eq_of_beq_eq_true hes
    refine ifLt_ok hA2 fun hlt => ?_
    have hlt := (ofLt hlt).2 rfl
    rw [seAdd_eval, seLen_eval] at hlt
    simp only [SE.eval] at hlt
    unfold xAppendS
    split <;> try trivial
    rename_i t' ks n' g hg
    rw [bc_eq]
    split <;> try trivial
    rename_i hq
    simp only [Bool.and_eq_true] at hq
    obtain ⟨⟨q1, q2⟩, q3⟩ := hq
    obtain rfl := Nat.eq_of_beq_eq_true q1
    obtain rfl := seEq_eq _ _ q2
    have hks := isU8_eq.1 q3
    subst hks
    have hr : Reads w i.size (h.eval Gv.σ).length (.string (bytesI (h.eval Gv.σ))) ((h.eval Gv.σ).map fun x => Value.int .u8 x) := by rw [hes]; exact reads_strI hbo
    have := ghAppend_ok (ty := ty) (n2 := seAdd n (seLen h)) (g2 := geCat g h) (row := h.eval Gv.σ) hw h0 hxt hu hi hz' hzs z5 hg hc hle hcap (by simp [hes]) hr
      (by rw [seAdd_eval, seLen_eval]) (by rw [geCat_eval]) (by rw [hes]; simp) (fun j hj => ⟨.u8, by simp [Nat.mod_one], by simp [hj]⟩) (fun _ => hbo) hA2 (by omega)
    rw [hes] at this
    exact this
  · split <;> try trivial
    rename_i m new hsrc
    obtain ⟨new', hr, hnew⟩ := srcCells_rel hw hsrc hx
    have hA2 := orA_ok hA (firstAs_ok hnew)
    refine ifLt_ok hA2 fun hlt => ?_
    have hlt := (ofLt hlt).2 rfl
    rw [seAdd_eval] at hlt
    simp only [SE.eval] at hlt
    have hlt : ¬ (60000 : Int) < n.eval Gv.σ + (m : Int) := hlt
    unfold xAppendG
    split <;> try trivial
    · rename_i t' ks n' g hg
      rw [bc_eq]
      split <;> try trivial
      rename_i hq
      simp only [Bool.and_eq_true] at hq
      obtain ⟨⟨⟨⟨q1, q2⟩, q3⟩, q4⟩, q5⟩ := hq
      obtain rfl := Nat.eq_of_beq_eq_true q1
      obtain rfl := seEq_eq _ _ q2
      have q3 := Nat.eq_of_beq_eq_true q3
      rw [llen_eq] at q3
      obtain ⟨k1, k2⟩ := kindsOk_rel (ρ := ρ) (A := A) q4 hnew
      refine ghAppend_ok (ty := ty) (row := new'.map (fun v => match v with | .int _ n => n | _ => (0 : Int))) hw h0 hxt hu hi hz' hzs z5 hg hc hle hcap q3 hr
        (by rw [seAdd_eval]; rfl) (by rw [geCat_eval, k1]) (by rw [List.length_map]; exact hr.2.1) ?_ ?_ hA2 (by omega)
      · intro j hj
        have hj' : j < new'.length := by simpa using hj
        obtain ⟨k, v, r1, r2⟩ := k2 j hj'
        rw [Nat.zero_add] at r1
        refine ⟨k, r1, ?_⟩
        rw [List.getElem?_eq_getElem hj']
        simp only [List.getElem_map, r2]
      · intro hk
        simp only [isU8_eq.2 hk, Bool.not_true, Bool.false_or] at q5
        exact u8All_ok hA2 q5 hnew
    · rename_i t' hg
      rw [bc_eq]
      split <;> try trivial
      rename_i hq
      simp only [Bool.and_eq_true] at hq
      obtain ⟨q1, q2⟩ := hq
      obtain rfl := Nat.eq_of_beq_eq_true q1
      exact junkAppend_ok (ty := ty) hw h0 hxt hu hi hz' hzs z5 hg hc hn0 hle hcap hr (fun v hv => allOne_rel new new' q2 hnew v hv) (by rw [seAdd_eval]; rfl) hA2 (by omega)
end
end Go.Ev
set_option linter.all false
namespace Go.Ev
variable [Gv]
/- Operations on what is known in part: sound (unsafe strings), and all of them. -/
section
variable {ρ : Env} {a : W} {w : World}
theorem xSData_ok (hw : WRel ρ a w) {ty : TypeId} {ts : Array TypeId} {x : AV} {x' : Value} (hx : VRel ρ x x') (n : Nat) : VOK ρ a w (Builtin.unsafeSliceData_ ts ty #[x']) (xSData x a n) := by
  unfold xSData
  split <;> try trivial
  rename_i b es m A
  simp only [VRel] at hx
  obtain ⟨hA, c, cap', hc, h0, hle, hcap, rfl⟩ := hx
  refine ifLt_ok hA fun hlt => ?_
  have hlt := (ofLt hlt).1 rfl
  simp only [SE.eval] at hlt
  have h' : cap' ≠ 0 := by omega
  exact VOK.here hw (v' := .pointer (some ⟨c, 0, none⟩)) (by show Sem.run PP (if cap' ≠ 0 then (pure (.pointer (some ⟨c, 0, none⟩)) : Sem Value) else _) w = _; rw [if_pos h', Sem.run_pure]) (by simp only [VRel]; exact ⟨hA, c, hc, by simp only [SE.eval]; omega, by simp [SE.eval]⟩)
theorem xUString_ok (hw : WRel ρ a w) {pt it ty : TypeId} {p n : AV} {p' n' : Value} (hp : VRel ρ p p') (hn : VRel ρ n n') (q : Nat) : VOK ρ a w (Builtin.unsafeString_ #[pt, it] ty #[p', n']) (xUString pt p n a q) := by
  unfold xUString
  split <;> try trivial
  rename_i b A e A'
  simp only [VRel] at hp hn
  obtain ⟨hA, c, hc, _, rfl⟩ := hp
  obtain ⟨_, rfl⟩ := hn
  split <;> try trivial
  rename_i t ks n' g hg
  rw [bc_eq]
  split <;> try trivial
  rename_i hcond
  simp only [Bool.and_eq_true] at hcond
  obtain rfl := seEq_eq _ _ hcond.1
  have hks := isU8_eq.1 hcond.2
  subst hks
  split <;> try trivial
  rename_i u s hu hsz
  rw [bc_eq]
  split <;> try trivial
  rename_i hcond2
  simp only [Bool.and_eq_true] at hcond2
  obtain rfl := Nat.eq_of_beq_eq_true hcond2.1
  obtain rfl := Nat.eq_of_beq_eq_true hcond2.2
  refine ifLt_ok hA fun h1 => ifLt_ok hA fun h2 => ?_
  have h1 := (ofLt h1).1 rfl
  have h2 := (ofLt h2).2 rfl
  simp only [SE.eval] at h1 h2
  obtain ⟨arr, fz, e1, e2, e3, e4, e5, e6, e7⟩ := (show GORel (.gh t [.u8] e g) _ from hw.block hg (by simp) hc)
  have hbo := e6 rfl
  simp only [List.length_cons, List.length_nil, Nat.zero_add, Nat.one_mul] at e4
  have hco : PP.cellsOf t = 1 := by
    unfold Go.Ev.sizeOf at hsz
    rw [Option.map_eq_some_iff] at hsz
    obtain ⟨i, hi, h1⟩ := hsz
    unfold Program.cellsOf
    rw [infoOf_eq hi, Option.map_some, Option.getD_some, h1]
  have hsh : w.shape? c = some (t, arr.size) := by simp [World.shape?, e1]
  generalize hbs : (g.eval Gv.σ).map (fun x => UInt8.ofNat x.toNat) = bs
  have hbl : bs.length = (e.eval Gv.σ).toNat := by rw [← hbs, List.length_map, e4]
  have hne : bs ≠ [] := by rintro rfl; simp at hbl; omega
  have hrun := Lib.run_unsafeString_row (P := PP) w pt it ty t (undOf_eq hu) hco c arr.size hsh bs hne (by omega) (by omega)
    (fun j x hj => by
      rw [addr_add, Nat.zero_add, cell_of e1]
      have hjl : j < (g.eval Gv.σ).length := by
        have := (List.getElem?_eq_some_iff.1 hj).1
        rw [hbl] at this; omega
      obtain ⟨k, r1, r2⟩ := e7 j hjl
      have hk : k = .u8 := by
        rw [List.length_cons, List.length_nil, Nat.zero_add, Nat.mod_one] at r1
        simpa using r1.symm
      subst hk
      rw [r2]
      rw [← hbs, List.getElem?_map, List.getElem?_eq_getElem hjl] at hj
      simp only [Option.map_some, Option.some.injEq] at hj
      rw [← hj, byte_back (hbo _ (List.getElem_mem hjl))])
  rw [hbl] at hrun
  have hpos : (e.eval Gv.σ).toNat ≠ 0 := by omega
  have heq : ((e.eval Gv.σ).toNat : Int) = e.eval Gv.σ := Int.toNat_of_nonneg e3
  rw [heq] at hrun
  intro _
  obtain ⟨lo, hi⟩ := fz
  have hlt := (Array.getElem?_eq_some_iff.1 e1).1
  have hA1 : Adv ρ a w ρ (wset b (.cells t 0 true 0 (max hi (e.eval Gv.σ).toNat) (cempty 0)) a) (w.freeze ⟨c, 0, none⟩ (e.eval Gv.σ).toNat) := by
    refine adv_put (c := c) (obj := .cells arr t (if lo == hi then (0, 0 + (e.eval Gv.σ).toNat) else (min lo 0, max hi (0 + (e.eval Gv.σ).toNat)))) hw (by rw [← wget_eq, hg]; simp) (by rw [← wget_eq, hg]; rfl) hc ?_ (by simp) ?_ ?_ ?_ ?_ ?_ ?_ ?_ (by rw [← wget_eq, hg]; rfl)
    · refine ⟨arr, _, rfl, Nat.zero_le _, (by intro h; cases h), Nat.zero_le _, ?_, fun i hi => by omega⟩
      by_cases hlh : lo = hi
      · subst hlh
        simp only [BEq.rfl, if_true]
        exact ⟨by omega, fun i _ hi => ⟨Nat.zero_le _, by omega⟩⟩
      · have hb : (lo == hi) = false := by simpa using hlh
        simp only [hb, Bool.false_eq_true, if_false]
        exact ⟨by omega, fun i _ hi => ⟨Nat.zero_le _, by omega⟩⟩
    · intro x y z e; cases e; exact hw.len b c arr t (lo, hi) (by rw [← wget_eq, hg]; simp) hc e1
    · unfold World.freeze; rw [if_neg hpos]; simp [Array.getElem?_modify, e1]
    · unfold World.freeze; rw [if_neg hpos]; simp
    · intro d hd; unfold World.freeze; rw [if_neg hpos]; simp [Array.getElem?_modify, Ne.symm hd]
    · unfold World.freeze; rw [if_neg hpos]
    · unfold World.freeze; rw [if_neg hpos]
    · unfold World.freeze; rw [if_neg hpos]
  have hkill := adv_kill hA1.rel b (by rw [wset_eq]; simp only [W.h_mk]; rw [hget_hset_same]; rfl)
  have hA2 := hA1.trans hkill
  have hsame : ∀ k, hget k (wset b .none (wset b (.cells t 0 true 0 (max hi (e.eval Gv.σ).toNat) (cempty 0)) a)).h = hget k (wset b .none a).h := by
    intro k
    simp only [wset_eq, W.h_mk]
    by_cases hk : k = b
    · subst hk; rw [hget_hset_same, hget_hset_same]
    · rw [hget_hset_ne hk, hget_hset_ne hk, hget_hset_ne hk]
  have hnx : (wset b .none (wset b (.cells t 0 true 0 (max hi (e.eval Gv.σ).toNat) (cempty 0)) a)).nx = (wset b .none a).nx := by simp only [wset_eq, W.nx_mk]
  refine ⟨ρ, w.freeze ⟨c, 0, none⟩ (e.eval Gv.σ).toNat, .string ⟨bs.toArray⟩, ?_, ?_, ?_⟩
  · simp only [SE.eval, Int.toNat_zero, Nat.mul_zero, Nat.add_zero]
    exact hrun
  · simp only [VRel]
    exact ⟨hA, by rw [← hbs]; rfl, hbo⟩
  · refine ⟨⟨?_, ?_, ?_, ?_⟩, hA2.le, ?_, ?_, hA2.size, ?_, ?_, hA2.frame, ?_, hA2.os, hA2.tape, hA2.output⟩
    · intro k l hk hl; exact hA2.rel.inj k l (by rw [hsame]; exact hk) (by rw [hsame]; exact hl)
    · intro k hk
      have := hA2.rel.dom k (by rw [hsame]; exact hk)
      rw [hsame] at this
      exact this
    · intro k d x y z hk; exact hA2.rel.len k d x y z (by rw [hsame]; exact hk)
    · intro k kd g' hk
      have q := hA2.rel.gho k kd g' (by rw [hsame]; exact hk)
      exact q.step rfl rfl (Nat.le_refl _) (fun _ _ => rfl) (fun l hl => q.sep l (by rw [hsame]; exact hl)) (fun l hl => q.dis l (by rw [hsame]; exact hl))
    · intro k; have := hA2.rng k; rw [hnx] at this; exact this
    · have := hA2.nx; rw [hnx] at this; exact this
    · rintro d ⟨k, hk, hr, hd⟩
      exact hA2.own d ⟨k, by rw [hsame]; exact hk, by rw [hsame]; exact hr, by rw [hsame]; exact hd⟩
    · intro k d hk hd; exact hA2.keep k d (by rw [hsame]; exact hk) hd
    · intro k hk hl; have q := hA2.fts k hk hl; rw [hsame] at q; exact q
theorem xBuiltin_ok (hw : WRel ρ a w) {b : Builtin} {ts : Array TypeId} {ty : TypeId} {cs : Array Bool} {vs : List AV} {args : Array Value} (hv : VRels ρ vs args.toList) (n : Nat) :
    NOK ρ a w (builtin b ts ty cs args) (xBuiltin b ts.toList vs a n) := by
  unfold xBuiltin
  split <;> try trivial
  · rename_i t r x hts
    obtain ⟨x', rfl, hx⟩ := one_arg hv
    exact (xLen_ok hw (head_of hts) hx n).next
  · rename_i t r s x hts
    obtain ⟨s', x', rfl, hs, hx⟩ := two_args hv
    have h1 : r.head? = ts[1]? := by
      have := congrArg (·[1]?) hts
      simp only [Array.getElem?_toList, List.getElem?_cons_succ] at this
      rw [this, List.head?_eq_getElem?]
    rw [h1]
    exact (xAppend_ok hw (head_of hts) hs hx n).next
  · rename_i t t2 p n' hts
    obtain ⟨s', x', rfl, hs, hx⟩ := two_args hv
    have : ts = #[t, t2] := by rw [← Array.toArray_toList (xs := ts), hts]
    subst this
    exact (xUString_ok hw hs hx n).next
  · rename_i x
    obtain ⟨x', rfl, hx⟩ := one_arg hv
    exact (xSData_ok hw hx n).next
variable {τ : F} {e : Operand → Value}
theorem xOp_ok (hw : WRel ρ a w) (he : ∀ x, VRel ρ (evX x τ) (e x)) (o : Oper) (n : Nat) : NOK ρ a w (execOp e o) (xOp o.op τ a n) := by
  obtain ⟨dst, op, ty, p, q, g⟩ := o
  unfold xOp
  split <;> try trivial
  · rename_i t x ho; cases ho; exact (xLoad_ok hw (he x) t n).next
  · rename_i t x i ho; cases ho; exact (xIndexAddr_ok hw (he x) (he i) n).next
  · rename_i t x i ho; cases ho; exact (xIndex_ok hw (he x) (he i) n).next
  · rename_i op t x y _ ho; cases ho; exact (xBin_ok hw (he x) (he y) n).next
  · rename_i s d x ho; cases ho; exact (xConv_ok hw (he x) n).next
  · rename_i t x lo hi mx ho; cases ho; exact (xSlice_ok hw (he x) (evO_rel he lo) (evO_rel he hi) (evO_rel he mx) n).next
  · rename_i t m k ok ho; cases ho; exact (xLookup_ok hw (he m) (he k) n).next
  · rename_i t m k v ho; cases ho; exact (xUpdate_ok hw (he m) (he k) (he v) n).next
  · rename_i t x ho; cases ho; exact (xRange_ok hw (he x) n).next
  · rename_i it s ho; cases ho; exact (xNext_ok hw (he it) n).next
  · rename_i b args ts ho
    cases ho
    refine (xBuiltin_ok hw (b := b) (ts := ts) (ty := ty) (cs := args.map fun | .const _ => true | _ => false) (evXa_rel he args) n).of_run ?_
    simp only [execOp, resolve, Sem.run_bind, Sem.run_pure, Result.andThen_ok, invoke]
    rfl
theorem knownE_ok {A : List SA} (hA : SAll Gv.σ A) {e : SE} {n : Int} (h : knownE e A = some n) : e.eval Gv.σ = n := by
  induction A with
  | nil => cases h
  | cons x l ih =>
    have ih := ih (fun y hy => hA y (List.mem_cons_of_mem _ hy))
    obtain ⟨lt, a, b, r⟩ := x
    unfold knownE at h
    split at h
    · rename_i m
      rw [bc_eq] at h
      split at h
      · rename_i he
        injection h with h
        have := hA (.mk false a (.c m) true) (by simp)
        have := of_decide_eq_true (this : decide (a.eval Gv.σ = (SE.c m).eval Gv.σ) = true)
        rw [seEq_eq _ _ he, this, ← h]; simp only [SE.eval]
      · exact ih h
    · exact ih h
theorem normV_ok {ρ : Env} {v : AV} {x : Value} (h : VRel ρ v x) : VRel ρ (normV v) x := by
  cases v <;> try exact h
  rename_i k e A
  show VRel ρ (normS (knownE e A) k e A) x
  cases hk : knownE e A with
  | none => exact h
  | some n =>
    simp only [VRel] at h
    show VRel ρ (.int k n) x
    simp only [VRel]
    rw [h.2, knownE_ok h.1 hk]
theorem gOp_eq (o : Op) (τ : F) (a : W) : gOp o τ a = normO (match fOp o τ a with
    | .no c => xOp o τ a c
    | r => r) := by
  unfold gOp
  cases fOp o τ a <;> rfl
theorem NOK.norm {s : Sem Next} {r : OR} (h : NOK ρ a w s r) : NOK ρ a w s (normO r) := by
  cases r with
  | val v w' =>
    intro hc
    obtain ⟨ρ', w2, hA, h⟩ := h hc
    refine ⟨ρ', w2, hA, ?_⟩
    rcases h with ⟨v', h1, h2⟩ | ⟨h1, h2⟩
    · exact .inl ⟨v', h1, normV_ok h2⟩
    · exact .inr ⟨h1, by rw [h2]; rfl⟩
  | _ => exact h
theorem gOp_ok (hw : WRel ρ a w) (he : ∀ x, VRel ρ (evX x τ) (e x)) (o : Oper) : NOK ρ a w (execOp e o) (gOp o.op τ a) := by
  have h := NOK.le (op_ok (τ := τ) (e := e) hw he o) (fOp_le o.op τ a)
  rw [gOp_eq]
  refine NOK.norm ?_
  split
  · exact xOp_ok hw he o _
  · exact h
theorem zOp_ok (hw : WRel ρ a w) (he : ∀ x, VRel ρ (evX x τ) (e x)) (o : Oper) : NOK ρ a w (execOp e o) (zOp o.op τ a) := by
  have h := op_ok (τ := τ) (e := e) hw he o
  unfold zOp
  refine NOK.norm ?_
  split
  · exact xOp_ok hw he o _
  · exact h
theorem gD_eq (o : Op) (τ : F) (a : W) : gD o τ a = zOp o τ a := by
  rcases fOp_le o τ a with ⟨c, h⟩ | h
  · unfold gD; rw [h]
  · unfold gD
    cases hf : fOp o τ a <;> rw [hf] at h <;> first
      | rfl
      | (unfold zOp; rw [← h]; rfl)
end
end Go.Ev
