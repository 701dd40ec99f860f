import Derived.Test.YtldcnedpfagliaaGreatDoorEvQ
set_option linter.all false
namespace Go.Ev
/- Binary and unary operations, conversions, building, addresses. -/
section
variable {ρ : Env} {a : W} {w : World}
/-- '==' and '!=' of two such values ask Op.equal -/
def Asks (x y : Value) : Prop := ∀ t, binOp .eql t x y = (do pure (.bool (← Op.equal t x y))) ∧ binOp .neq t x y = (do pure (.bool (!(← Op.equal t x y))))
def isInt : AV → Bool | .int _ _ => true | _ => false
def isStrA : AV → Bool | .str _ _ => true | _ => false
theorem eqIn_asks {d : Nat} {t : TypeId} {x y : AV} {r : Bool} {x' y' : Value} (h : eqIn a d t x y = some r) (hx : VRel ρ x x') (hy : VRel ρ y y')
    (hi : (isInt x && isInt y) = false) (hs : (isStrA x && isStrA y) = false) : Asks x' y' := by
  cases d with
  | zero => cases h
  | succ d =>
    unfold eqIn at h
    split at h <;> (try (cases h; done)) <;> simp only [VRel] at hx hy <;> first
      | (simp [isInt] at hi; done)
      | (simp [isStrA] at hs; done)
      | (subst hx; subst hy; intro t; exact ⟨rfl, rfl⟩)
      | (subst hx; obtain ⟨_, _, rfl⟩ := hy; intro t; exact ⟨rfl, rfl⟩)
      | (subst hy; obtain ⟨_, _, rfl⟩ := hx; intro t; exact ⟨rfl, rfl⟩)
      | (obtain ⟨_, _, rfl⟩ := hx; obtain ⟨_, _, rfl⟩ := hy; intro t; exact ⟨rfl, rfl⟩)
      | (subst hx; obtain ⟨_, rfl, _⟩ := hy; intro t; exact ⟨rfl, rfl⟩)
      | (subst hy; obtain ⟨_, rfl, _⟩ := hx; intro t; exact ⟨rfl, rfl⟩)
      | (obtain ⟨_, rfl, _⟩ := hx; obtain ⟨_, rfl, _⟩ := hy; intro t; exact ⟨rfl, rfl⟩)
      | (subst hx; obtain ⟨_, _, _, _, _, rfl⟩ := hy; intro t; exact ⟨rfl, rfl⟩)
      | (subst hy; obtain ⟨_, _, _, _, _, rfl⟩ := hx; intro t; exact ⟨rfl, rfl⟩)
      | (subst hx; obtain ⟨_, _, rfl, _⟩ := hy; intro t; exact ⟨rfl, rfl⟩)
      | (subst hy; obtain ⟨_, _, rfl, _⟩ := hx; intro t; exact ⟨rfl, rfl⟩)
      | (subst hx; obtain ⟨_, _, _, rfl, _⟩ := hy; intro t; exact ⟨rfl, rfl⟩)
      | (subst hy; obtain ⟨_, _, _, rfl, _⟩ := hx; intro t; exact ⟨rfl, rfl⟩)
theorem isConst_eq (x : Operand) : isConst x = (match x with | .const _ => true | _ => false) := by cases x <;> rfl
theorem guard_any {op : BinOp} {t : TypeId} {x y : Operand} {b' c' : Value} (h1 : b' = .nilIface → c' = .nilIface → (isConst x || isConst y) = true)
    (h2 : ∀ p q, b' = .agg p → c' = .agg q → PP.eqGuardType PP.depth t = false) : (eqGuard op t x y b' c').run PP w = .ok () w := by
  unfold eqGuard
  cases op <;> (try rfl) <;> cases b' <;> (try rfl) <;> cases c' <;> (try rfl)
  · have := h1 rfl rfl
    cases x <;> cases y <;> first | rfl | (simp [isConst] at this; done)
  · simp [h2 _ _ rfl rfl]
  · have := h1 rfl rfl
    cases x <;> cases y <;> first | rfl | (simp [isConst] at this; done)
  · simp [h2 _ _ rfl rfl]
theorem inv_nilIface {b : AV} (h : VRel ρ b .nilIface) : b = .nilIface ∨ b = .top := by
  cases b <;> simp only [VRel] at h <;> first
    | (exact .inl rfl) | (exact .inr rfl)
    | (cases h; done)
    | (obtain ⟨_, h⟩ := h; cases h; done)
    | (obtain ⟨_, _, h⟩ := h; cases h; done)
    | (obtain ⟨_, _, _, _, _, h⟩ := h; cases h; done)
    | (obtain ⟨_, _, _, _, _, _, h⟩ := h; cases h; done)
    | (obtain ⟨_, _, _, _, h⟩ := h; cases h; done)
    | (obtain ⟨_, _, h, _⟩ := h; cases h; done)
    | (obtain ⟨_, h, _⟩ := h; cases h; done)
    | (obtain ⟨_, _, _, h, _⟩ := h; cases h; done)
theorem inv_agg {b : AV} {p : Array Value} (h : VRel ρ b (.agg p)) : (∃ l, b = .agg l) ∨ b = .top := by
  cases b <;> simp only [VRel] at h <;> first
    | (exact .inl ⟨_, rfl⟩) | (exact .inr rfl)
    | (cases h; done)
    | (obtain ⟨_, h⟩ := h; cases h; done)
    | (obtain ⟨_, _, h⟩ := h; cases h; done)
    | (obtain ⟨_, _, _, _, _, h⟩ := h; cases h; done)
    | (obtain ⟨_, _, _, _, _, _, h⟩ := h; cases h; done)
    | (obtain ⟨_, _, _, _, h⟩ := h; cases h; done)
    | (obtain ⟨_, _, h, _⟩ := h; cases h; done)
    | (obtain ⟨_, h, _⟩ := h; cases h; done)
    | (obtain ⟨_, _, _, h, _⟩ := h; cases h; done)
theorem guard_run {op : BinOp} {t : TypeId} {x y : Operand} {b c : AV} {b' c' : Value} (h : guardOk t x y b c = true) (hb : VRel ρ b b') (hc : VRel ρ c c') (hb0 : b ≠ .top) (hc0 : c ≠ .top) :
    (eqGuard op t x y b' c').run PP w = .ok () w := by
  apply guard_any
  · rintro rfl rfl
    obtain rfl := (inv_nilIface hb).resolve_right hb0
    obtain rfl := (inv_nilIface hc).resolve_right hc0
    exact h
  · rintro p q rfl rfl
    obtain ⟨l, rfl⟩ := (inv_agg hb).resolve_right hb0
    obtain ⟨m, rfl⟩ := (inv_agg hc).resolve_right hc0
    simpa [guardOk] using h
theorem guard_num {op : BinOp} {t : TypeId} {x y : Operand} {b' c' : Value} (h1 : b' ≠ .nilIface) (h2 : ∀ p, b' ≠ .agg p) : (eqGuard op t x y b' c').run PP w = .ok () w :=
  guard_any (fun e => absurd e h1) (fun p _ e => absurd e (h2 p))
theorem eqIn_top {d : Nat} {t : TypeId} {x y : AV} {r : Bool} (h : eqIn a d t x y = some r) : x ≠ .top ∧ y ≠ .top := by
  cases d with
  | zero => cases h
  | succ d => unfold eqIn at h; split at h <;> first | (cases h; done) | (constructor <;> (intro e; cases e))
theorem retO_ok (hw : WRel ρ a w) {s : Sem Value} {o : Option AV} {c : Nat} (h : ∀ v, o = some v → ∃ v', s.run PP w = .ok v' w ∧ VRel ρ v v') : VOK ρ a w s (retO o a c) := by
  unfold retO
  split
  · obtain ⟨v', h1, h2⟩ := h _ rfl; exact VOK.here hw h1 h2
  · trivial
theorem bin_ok (hw : WRel ρ a w) {op : BinOp} {t : TypeId} {x y : Operand} {b c : AV} {b' c' : Value} (hb : VRel ρ b b') (hc : VRel ρ c c') :
    VOK ρ a w (do eqGuard op t x y b' c'; binOp op t b' c') (evBin op t x y b c a) := by
  unfold evBin
  split
  · rename_i k m k' n
    simp only [VRel] at hb hc
    subst hb; subst hc
    have hg := guard_num (w := w) (op := op) (t := t) (x := x) (y := y) (b' := .int k m) (c' := .int k' n) (by simp) (by simp)
    split
    · refine retO_ok hw fun v hv => ?_
      obtain ⟨v', h1, h2⟩ := intBin_run (ρ := ρ) (w := w) t hv (k' := k') (.inr (.inl rfl))
      exact ⟨v', by simp only [Sem.run_bind, hg, Result.andThen_ok, h1], h2⟩
    · refine retO_ok hw fun v hv => ?_
      obtain ⟨v', h1, h2⟩ := intBin_run (ρ := ρ) (w := w) t hv (k' := k') (.inr (.inr rfl))
      exact ⟨v', by simp only [Sem.run_bind, hg, Result.andThen_ok, h1], h2⟩
    · rw [bc_eq]
      split
      · rename_i hk
        obtain rfl := (kbeq_iff _ _).1 hk
        refine retO_ok hw fun v hv => ?_
        obtain ⟨v', h1, h2⟩ := intBin_run (ρ := ρ) (w := w) t hv (k' := k) (.inl rfl)
        exact ⟨v', by simp only [Sem.run_bind, hg, Result.andThen_ok, h1], h2⟩
      · trivial
  · rename_i l n l' n'
    simp only [VRel] at hb hc
    obtain ⟨h1, rfl⟩ := hb
    obtain ⟨h2, rfl⟩ := hc
    have hg := guard_num (w := w) (op := op) (t := t) (x := x) (y := y) (b' := .string (unpack l n)) (c' := .string (unpack l' n')) (by simp) (by simp)
    refine retO_ok hw fun v hv => ?_
    obtain ⟨v', h3, h4⟩ := strBin_run (ρ := ρ) (w := w) t hv h1 h2
    exact ⟨v', by simp only [Sem.run_bind, hg, Result.andThen_ok, h3], h4⟩
  · rename_i k e A k' n
    rw [bc_eq]
    split <;> try trivial
    rename_i hk
    obtain rfl := (kbeq_iff _ _).1 hk
    simp only [VRel] at hb hc
    obtain ⟨hV, hA, rfl⟩ := hb
    subst hc
    have hg := guard_num (w := w) (op := op) (t := t) (x := x) (y := y) (b' := .int k (e.eval ρ.val)) (c' := .int k n) (by simp) (by simp)
    refine retO_ok hw fun v hv => ?_
    obtain ⟨v0, q1, q2⟩ := symOp_ok hV hA hv
    obtain ⟨v', h1, h2⟩ := intBin_run (ρ := ρ) (w := w) t q1 (k' := k) (.inl rfl)
    exact ⟨v', by simp only [Sem.run_bind, hg, Result.andThen_ok]; exact h1, q2 _ h2⟩
  · rename_i k' n k e A
    rw [bc_eq]
    split <;> try trivial
    rename_i hk
    obtain rfl := (kbeq_iff _ _).1 hk
    simp only [VRel] at hb hc
    obtain ⟨hV, hA, rfl⟩ := hc
    subst hb
    have hg := guard_num (w := w) (op := op) (t := t) (x := x) (y := y) (b' := .int k n) (c' := .int k (e.eval ρ.val)) (by simp) (by simp)
    refine retO_ok hw fun v hv => ?_
    obtain ⟨v0, q1, q2⟩ := symOp_ok hV hA hv
    obtain ⟨v', h1, h2⟩ := intBin_run (ρ := ρ) (w := w) t q1 (k' := k) (.inl rfl)
    exact ⟨v', by simp only [Sem.run_bind, hg, Result.andThen_ok]; exact h1, q2 _ h2⟩
  · rename_i k e A k' e' A'
    rw [bc_eq]
    split <;> try trivial
    rename_i hk
    obtain rfl := (kbeq_iff _ _).1 hk
    simp only [VRel] at hb hc
    obtain ⟨hV, hA, rfl⟩ := hb
    obtain ⟨_, _, rfl⟩ := hc
    have hg := guard_num (w := w) (op := op) (t := t) (x := x) (y := y) (b' := .int k (e.eval ρ.val)) (c' := .int k (e'.eval ρ.val)) (by simp) (by simp)
    refine retO_ok hw fun v hv => ?_
    obtain ⟨v0, q1, q2⟩ := symOp_ok hV hA hv
    obtain ⟨v', h1, h2⟩ := intBin_run (ρ := ρ) (w := w) t q1 (k' := k) (.inl rfl)
    exact ⟨v', by simp only [Sem.run_bind, hg, Result.andThen_ok]; exact h1, q2 _ h2⟩
  · rename_i hni hns _ _ _
    have hi : (isInt b && isInt c) = false := by
      cases b <;> first | rfl | (cases c <;> first | rfl | (exact (hni _ _ _ _ rfl rfl).elim))
    have hs : (isStrA b && isStrA c) = false := by
      cases b <;> first | rfl | (cases c <;> first | rfl | (exact (hns _ _ _ _ rfl rfl).elim))
    split
    · rw [bc_eq]
      split
      · rename_i hg
        refine retO_ok hw fun v hv => ?_
        simp only [Option.map_eq_some_iff] at hv
        obtain ⟨r, hr, rfl⟩ := hv
        have ⟨t1, t2⟩ := eqIn_top hr
        have hg := guard_run (w := w) (op := .eql) hg hb hc t1 t2
        have hq := eqIn_run hw 8 t b c r b' c' hr hb hc 10000 (by omega)
        refine ⟨.bool r, ?_, rel_bool rfl⟩
        simp only [Sem.run_bind, hg, Result.andThen_ok, (eqIn_asks hr hb hc hi hs t).1, Op.equal, Op.maxDepth, hq, Sem.run_pure]
      · trivial
    · rw [bc_eq]
      split
      · rename_i hg
        refine retO_ok hw fun v hv => ?_
        simp only [Option.map_eq_some_iff] at hv
        obtain ⟨r, hr, rfl⟩ := hv
        have ⟨t1, t2⟩ := eqIn_top hr
        have hg := guard_run (w := w) (op := .neq) hg hb hc t1 t2
        have hq := eqIn_run hw 8 t b c r b' c' hr hb hc 10000 (by omega)
        refine ⟨.bool (!r), ?_, rel_bool rfl⟩
        simp only [Sem.run_bind, hg, Result.andThen_ok, (eqIn_asks hr hb hc hi hs t).2, Op.equal, Op.maxDepth, hq, Sem.run_pure]
      · trivial
    · trivial
theorem un_ok (hw : WRel ρ a w) {op : UnOp} {b : AV} {b' : Value} (hb : VRel ρ b b') : VOK ρ a w (Op.unary op b') (evUn op b a) := by
  unfold evUn
  split
  · simp only [VRel] at hb; subst hb
    exact VOK.here hw (by simp only [Op.unary, Op.intArith]; rfl) (rel_int (by rw [wrapF_eq]; rfl))
  · rename_i k e A
    simp only [VRel] at hb
    obtain ⟨hV, hA, rfl⟩ := hb
    exact VOK.here hw (v' := .int k (k.wrap (0 - e.eval ρ.val))) (by simp only [Op.unary, Op.intArith]; rfl) (by simp only [VRel]; exact ⟨hV, hA, rfl⟩)
  · rename_i k n
    simp only [VRel] at hb; subst hb
    refine retO_ok hw fun v hv => ?_
    simp only [Option.map_eq_some_iff] at hv
    obtain ⟨r, hr, rfl⟩ := hv
    exact ⟨_, by simp only [Op.unary]; exact bitsSlow_run hr, rel_int rfl⟩
  · simp only [VRel] at hb; subst hb
    exact VOK.here hw (by simp only [Op.unary]; rfl) (rel_bool rfl)
  · trivial
end
end Go.Ev
