import Derived.Test.YtjakdjfepibedaaGreatDoorEvN
set_option linter.all false
namespace Go.Ev
/- One operation. -/
section
variable {ρ : Env} {a : W} {w : World}
def GRel (ρ : Env) : Prop := ∀ g, g ≤ 255 → ρ (K.of g) = some g
def FRel (ρ : Env) (τ : F) (tmps : Array Value) : Prop := ∀ t, VRel ρ (fget t τ) (tmps.getD t undef)
theorem evX_rel (hg : GRel ρ) {τ : F} {fr : Frame} (hf : FRel ρ τ fr.tmps) (x : Operand) : VRel ρ (evX x τ) (fr.eval x) := by
  cases x with
  | tmp t => exact hf t
  | const v => exact ofV_rel ρ v
  | global g =>
    show VRel ρ (bc (Nat.ble g 255) (.ptr (K.of g) 0) .top) _
    rw [bc_eq]
    split
    · rename_i h
      simp only [VRel]
      exact ⟨g, hg g (Nat.le_of_ble_eq_true h), rfl⟩
    · simp only [VRel]
  | func f => simp only [evX, VRel, Frame.eval]; exact ⟨_, #[], #[], rfl, rfl, by simp only [VRels], by simp only [VRels]⟩
variable {τ : F} {e : Operand → Value}
theorem evXs_rel (he : ∀ x, VRel ρ (evX x τ) (e x)) : ∀ l : List Operand, VRels ρ (evXs l τ) (l.map e)
  | [] => by simp only [evXs, List.map_nil, VRels]
  | x :: l => by
    have := evXs_rel he l
    simp only [evXs, List.map_cons, VRels] at this ⊢
    exact ⟨_, _, rfl, he x, this⟩
theorem evXa_rel (he : ∀ x, VRel ρ (evX x τ) (e x)) (l : Array Operand) : VRels ρ (evXs l.toList τ) (l.map e).toList := by
  rw [Array.toList_map]; exact evXs_rel he _
theorem one_arg {x : AV} {args : Array Value} (h : VRels ρ [x] args.toList) : ∃ x', args = #[x'] ∧ VRel ρ x x' := by
  simp only [VRels] at h
  obtain ⟨v, r, h1, h2, h3⟩ := h
  rw [h3] at h1
  exact ⟨v, by rw [← Array.toArray_toList (xs := args), h1], h2⟩
theorem two_args {x y : AV} {args : Array Value} (h : VRels ρ [x, y] args.toList) : ∃ x' y', args = #[x', y'] ∧ VRel ρ x x' ∧ VRel ρ y y' := by
  simp only [VRels] at h
  obtain ⟨v, r, h1, h2, v2, r2, h3, h4, h5⟩ := h
  rw [h5] at h3; rw [h3] at h1
  exact ⟨v, v2, by rw [← Array.toArray_toList (xs := args), h1], h2, h4⟩
theorem ext_one (x : Value) (l : Array Value) : (#[x] ++ l).extract 1 (#[x] ++ l).size = l := by
  obtain ⟨l⟩ := l
  apply Array.toList_inj.1
  simp
theorem zero_one (x : Value) (l : Array Value) : (#[x] ++ l)[0]? = some x := by
  rw [← Array.getElem?_toList, Array.toList_append]
  rfl
theorem head_of {ts : Array TypeId} {t : TypeId} {r : List TypeId} (h : ts.toList = t :: r) : ts[0]? = some t := by
  have := congrArg (·[0]?) h
  simpa using this
theorem builtin_ok (hw : WRel ρ a w) {b : Builtin} {ts : Array TypeId} {ty : TypeId} {cs : Array Bool} {vs : List AV} {args : Array Value} (hv : VRels ρ vs args.toList) :
    NOK ρ a w (builtin b ts ty cs args) (evBuiltin b ts.toList vs a) := by
  unfold evBuiltin
  split <;> try trivial
  · rename_i t r x hts
    obtain ⟨x', rfl, hx⟩ := one_arg hv
    exact (len_ok hw (head_of hts) hx).next
  · rename_i t tn kq k hts
    obtain ⟨s', x', rfl, hs, hx⟩ := two_args hv
    simp only [VRel] at hs hx
    subst hs hx
    have hts' : ts = #[t, tn] := Array.toList_inj.1 (by simpa using hts)
    subst hts'
    exact (growZ_ok hw).next
  · rename_i t tn bk off l cap kq k hts
    obtain ⟨s', x', rfl, hs, hx⟩ := two_args hv
    simp only [VRel, SlOk] at hs hx
    subst hx
    obtain ⟨c, cap', _, _, hcap, rfl⟩ := hs
    subst hcap
    have hts' : ts = #[t, tn] := Array.toList_inj.1 (by simpa using hts)
    subst hts'
    rw [bc_eq]
    split <;> try trivial
    rename_i h0
    simp only [Bool.and_eq_true] at h0
    have h1 := Nat.eq_of_beq_eq_true h0.1
    subst h1
    exact (growZ2_ok hw (Nat.le_of_ble_eq_true h0.2)).next
  · rename_i t r s x _ _ hts
    obtain ⟨s', x', rfl, hs, hx⟩ := two_args hv
    have h1 : r.head? = ts[1]? := by
      have := congrArg (·[1]?) hts
      simp only [Array.getElem?_toList, List.getElem?_cons_succ] at this
      rw [this, List.head?_eq_getElem?]
    rw [h1]
    exact (append_ok hw (head_of hts) hs hx).next
  · rename_i t r d s hts
    obtain ⟨s', x', rfl, hs, hx⟩ := two_args hv
    exact (copy_ok hw (head_of hts) hs hx).next
  · rename_i t r x hts
    obtain ⟨x', rfl, hx⟩ := one_arg hv
    exact (cap_ok hw (head_of hts) hx).next
  · exact (show VOK ρ a w (Builtin.min_ ts ty args) _ from minmax_ok (mx := false) (ts := ts) (ty := ty) hw hv).next
  · exact (show VOK ρ a w (Builtin.max_ ts ty args) _ from minmax_ok (mx := true) (ts := ts) (ty := ty) hw hv).next
  · rename_i t t2 p n hts
    obtain ⟨s', x', rfl, hs, hx⟩ := two_args hv
    have : ts = #[t, t2] := by rw [← Array.toArray_toList (xs := ts), hts]
    subst this
    exact (ustring_ok hw hs hx).next
  · rename_i x
    obtain ⟨x', rfl, hx⟩ := one_arg hv
    exact (sdata_ok hw hx).next
theorem call_ok (hw : WRel ρ a w) (he : ∀ x, VRel ρ (evX x τ) (e x)) (c : Call) (ty : TypeId) : NOK ρ a w (do let d ← resolve e c ty; invoke d.target d.args) (evCall c τ a) := by
  unfold evCall
  split
  · rename_i f hc
    refine (callV_ok hw (he f) (evXa_rel he c.args)).of_run ?_
    simp only [resolve, hc]
  · rename_i r name hc
    refine (callM_ok hw (he r) (evXa_rel he c.args) (name := name)).of_run ?_
    simp only [resolve, hc, Sem.run_bind, Sem.run_pure, Result.andThen_ok, invoke]
    rw [ext_one, zero_one]
  · rename_i b hc
    refine (builtin_ok hw (b := b) (ts := c.argTypes) (ty := ty) (cs := c.args.map fun | .const _ => true | _ => false) (evXa_rel he c.args)).of_run ?_
    simp only [resolve, hc, Sem.run_bind, Sem.run_pure, Result.andThen_ok, invoke]
    rfl
theorem nilCheck_ok (hw : WRel ρ a w) {x : AV} {o : Oper} {y : Operand} (ho : o.op = .nilCheck y) (hx : VRel ρ x (e y)) : NOK ρ a w (execOp e o) (evNilCheck x a) := by
  unfold evNilCheck
  have hx0 := hx
  split <;> try trivial
  · simp only [VRel] at hx; obtain ⟨c, hc, h⟩ := hx
    intro _; refine ⟨ρ, w, Adv.refl hw, .inl ⟨_, ?_, hx0⟩⟩
    simp only [execOp, ho, h, Sem.run_pure]
  · simp only [VRel] at hx; obtain ⟨c, h, _⟩ := hx
    intro _; refine ⟨ρ, w, Adv.refl hw, .inl ⟨_, ?_, hx0⟩⟩
    simp only [execOp, ho, h, Sem.run_pure]
  · simp only [VRel] at hx; obtain ⟨fn', c, d, h, hfn, _⟩ := hx
    obtain rfl := hfn.plain (by intro n h; cases h)
    intro _; refine ⟨ρ, w, Adv.refl hw, .inl ⟨_, ?_, hx0⟩⟩
    simp only [execOp, ho, h, Sem.run_pure]
theorem evParts_rel (he : ∀ x, VRel ρ (evX x τ) (e x)) : ∀ l : List (Nat × Operand), PRel ρ (evParts l τ) (l.map fun (i, x) => (i, e x))
  | [] => by simp only [evParts, List.map_nil, PRel]
  | (i, x) :: l => by
    have := evParts_rel he l
    simp only [evParts, List.map_cons, PRel] at this ⊢
    exact ⟨_, _, rfl, he x, this⟩
theorem evPartsA_rel (he : ∀ x, VRel ρ (evX x τ) (e x)) (l : Array (Nat × Operand)) : PRel ρ (evParts l.toList τ) (l.map fun (i, x) => (i, e x)).toList := by
  rw [Array.toList_map]; exact evParts_rel he _
theorem evO_rel (he : ∀ x, VRel ρ (evX x τ) (e x)) (o : Option Operand) : OVRel ρ (o.map fun y => evX y τ) (o.map e) := by
  cases o with
  | none => rfl
  | some y => exact ⟨_, rfl, he y⟩
theorem alloc_ok (hw : WRel ρ a w) (t : TypeId) : VOK ρ a w (Instr.alloc t true (.tuple #[])) (match zeroOf t with | some z => bc (notTop z) (newRow t (cellsOf z) a) (.no 174) | none => .no 160) := by
  cases hz : zeroOf t with
  | none => trivial
  | some z =>
    dsimp only
    obtain ⟨i, z', hi, hz', rfl⟩ := zeroOf_eq hz
    rw [bc_eq]
    split <;> try trivial
    rename_i hn
    refine (newRow_ok hw (t := t) (cellsOf_rel (ofV_rel ρ z') (notTop_ne hn))).of_run ?_
    simp only [Instr.alloc, Sem.run_bind, run_zero hi hz', Result.andThen_ok, newVar, Sem.run_pure]
theorem value_ok (hw : WRel ρ a w) {s : Sem Next} {v : AV} {v' : Value} (h : s.run PP w = .ok (.value v') w) (hv : VRel ρ v v') : NOK ρ a w s (.val v a) :=
  fun _ => ⟨ρ, w, Adv.refl hw, .inl ⟨v', h, hv⟩⟩
theorem op_ok (hw : WRel ρ a w) (he : ∀ x, VRel ρ (evX x τ) (e x)) (o : Oper) : NOK ρ a w (execOp e o) (evOp o.op τ a) := by
  obtain ⟨dst, op, ty, p, q, g⟩ := o
  cases op <;> try trivial
  case move x => exact value_ok hw rfl (he x)
  case assign x => exact value_ok hw rfl (he x)
  case pick c x y => exact (pick_ok hw (he c) (he x) (he y)).next.of_run (by simp only [execOp, Sem.run_bind, Sem.run_pure]; cases (asBool (e c)).run PP w <;> rfl)
  case alloc t => exact (alloc_ok hw t).next
  case box t x =>
    show NOK ρ a w _ (bc (notTop (evX x τ)) (newRow t (cellsOf (evX x τ)) a) (.no 173))
    rw [bc_eq]
    split <;> try trivial
    rename_i hn
    exact (box_ok hw (he x) (notTop_ne hn)).next
  case build t ps => exact (build_ok hw (evPartsA_rel he ps)).next
  case buildSlice t n ps => exact (buildSlice_ok hw (evPartsA_rel he ps)).next
  case insert t m k v => exact (update_ok hw (he m) (he k) (he v)).next
  case load t x => exact (load_ok hw (he x) t).next
  case store t x v => exact (store_ok hw (he x) (he v) t).next
  case nilCheck x => exact nilCheck_ok hw rfl (he x)
  case binOp op t x y _ => exact (bin_ok hw (he x) (he y)).next
  case unOp op t x => exact (un_ok hw (he x)).next
  case convert s d x => exact (conv_ok hw (he x)).next
  case makeInterface t x => exact (makeIface_ok hw (he x)).next
  case makeFunc fn f c => exact (makeFunc_ok hw (evXa_rel he f) (evXa_rel he c)).next
  case makeMap t r =>
    refine (makeMap_ok hw (r := r.map fun y => evX y τ) (r' := r.map e) ?_).next
    cases r with
    | none => rfl
    | some y => exact ⟨_, rfl, he y⟩
  case makeSlice t l c => exact (makeSlice_ok hw (he l) (he c)).next
  case slice t x lo hi mx => exact (slice_ok hw (he x) (evO_rel he lo) (evO_rel he hi) (evO_rel he mx)).next
  case fieldAddr s x f => exact (fieldAddr_ok hw (he x)).next
  case field s x f => exact (field_ok hw (he x)).next
  case indexAddr t x i => exact (indexAddr_ok hw (he x) (he i)).next
  case index t x i => exact (index_ok hw (he x) (he i)).next
  case lookup t m k ok => exact (lookup_ok hw (he m) (he k)).next
  case mapUpdate t m k v => exact (update_ok hw (he m) (he k) (he v)).next
  case range t x => exact (range_ok hw (he x)).next
  case next it s => exact (next_ok hw (he it)).next
  case typeAssert x t t' ok => exact (assert_ok hw (he x)).next
  case extract t i => exact (extract_ok hw (he t)).next
  case call c => exact call_ok hw he c ty
  case defer c =>
    show NOK ρ a w _ (evDefer c τ a)
    unfold evDefer
    split <;> try trivial
    rename_i f hc
    split <;> try trivial
    rename_i g first cap hf
    have hff := he f
    rw [hf] at hff
    refine (defer_ok hw (by intro n h; cases h) hff (evXa_rel he c.args)).of_run ?_
    simp only [execOp, resolve, hc]
  case panic x => exact panic_ok hw (he x)
end
end Go.Ev
