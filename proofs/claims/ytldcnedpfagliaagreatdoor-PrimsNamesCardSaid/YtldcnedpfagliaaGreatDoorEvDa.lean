import Derived.Test.YtldcnedpfagliaaGreatDoorEvCe
set_option linter.all false
namespace Go.Ev
/- Facts about single operations, for regions whose order is drawn. -/
section
variable {τ τ' : F} {a : W}
theorem evXs_congr {l : List Operand} (h : ∀ x ∈ l, evX x τ = evX x τ') : evXs l τ = evXs l τ' := List.map_congr_left h
theorem evParts_congr {l : List (Nat × Operand)} (h : ∀ x ∈ l.map (·.2), evX x τ = evX x τ') : evParts l τ = evParts l τ' :=
  List.map_congr_left fun p hp => by rw [h p.2 (List.mem_map.2 ⟨p, hp, rfl⟩)]
theorem evCall_congr {c : Call} (h : ∀ x ∈ c.operands, evX x τ = evX x τ') : evCall c τ a = evCall c τ' a := by
  have hx : evXs c.args.toList τ = evXs c.args.toList τ' := evXs_congr fun x hx => h x (by simp only [Call.operands, Array.mem_append]; right; simpa using hx)
  unfold evCall
  rw [hx]
  cases hc : c.callee with
  | value f => dsimp only; rw [h f (by simp [Call.operands, hc])]
  | invoke r m => dsimp only; rw [h r (by simp [Call.operands, hc])]
  | builtin b => rfl
theorem evDefer_congr {c : Call} (h : ∀ x ∈ c.operands, evX x τ = evX x τ') : evDefer c τ a = evDefer c τ' a := by
  have hx : evXs c.args.toList τ = evXs c.args.toList τ' := evXs_congr fun x hx => h x (by simp only [Call.operands, Array.mem_append]; right; simpa using hx)
  unfold evDefer
  rw [hx]
  cases hc : c.callee with
  | value f => dsimp only; rw [h f (by simp [Call.operands, hc])]
  | invoke r m => rfl
  | builtin b => rfl
theorem evOp_congr (op : Op) (h : ∀ x ∈ op.operands, evX x τ = evX x τ') : evOp op τ a = evOp op τ' a := by
  cases op <;> simp only [Op.operands] at h <;> dsimp only [evOp]
  case build t ps => rw [evParts_congr (fun x hx => h x (by simpa using hx))]
  case buildSlice t n ps => rw [evParts_congr (fun x hx => h x (by simpa using hx))]
  case makeFunc fn f c => rw [evXs_congr (l := f.toList) (fun x hx => h x (by simp; left; simpa using hx)), evXs_congr (l := c.toList) (fun x hx => h x (by simp; right; simpa using hx))]
  case makeMap t r => cases r with
    | none => rfl
    | some y => simp only [Option.map_some]; rw [h y (by simp)]
  case slice t x lo hi mx => cases lo <;> cases hi <;> cases mx <;> simp_all
  case call c => exact evCall_congr h
  case defer c => exact evDefer_congr h
  all_goals (first | rfl | (simp_all; done))
/-- an answer that leaves the world as it is -/
def Same (a : W) : OR → Prop
  | .val _ a' => a' = a
  | _ => True
theorem same_v (v : AV) : Same a (.val v a) := rfl
theorem same_bc {c : Bool} {x y : OR} (hx : Same a x) (hy : Same a y) : Same a (bc c x y) := by rw [bc_eq]; split <;> assumption
theorem same_ret (o : Option AV) (c : Nat) : Same a (retO o a c) := by cases o <;> trivial
theorem same_load (t : TypeId) (p : AV) : Same a (evLoad t p a) := by
  unfold evLoad
  split
  · unfold ldOne; split <;> try trivial
    · unfold ldWin; split <;> try trivial
      refine same_bc ?_ trivial
      split <;> trivial
    · split <;> trivial
  · unfold ldMany; split <;> try trivial
    split <;> trivial
  · trivial
theorem same_look (ok : Bool) (v : AV) (b : Bool) : Same a (lookR ok v b a) := by cases ok <;> trivial
theorem same_lookup (t : TypeId) (m k : AV) (ok : Bool) : Same a (evLookup t m k ok a) := by
  unfold evLookup
  refine same_bc ?_ ?_
  rotate_left
  · unfold evLookupS
    split <;> try trivial
    split
    · exact same_look ..
    · split
      · split
        · exact same_look ..
        · exact same_look ..
        · trivial
      · trivial
    · trivial
  split
  · exact same_look ..
  · split
    · split
      · exact same_look ..
      · exact same_look ..
      · trivial
    · split
      · exact same_look ..
      · exact same_look ..
      · trivial
    · trivial
  · trivial
theorem same_conv (s d : TypeId) (x : AV) : Same a (evConv s d x a) := by
  unfold evConv
  split <;> try trivial
  · split <;> try trivial
    split <;> trivial
  · split <;> try trivial
    exact same_bc (same_v _) (same_bc trivial (same_bc (same_v _) trivial))
  · split <;> try trivial
    exact same_bc (same_v _) trivial
theorem same_bin (op : BinOp) (t : TypeId) (x y : Operand) (p q : AV) : Same a (evBin op t x y p q a) := by
  unfold evBin
  split
  · split
    · exact same_ret ..
    · exact same_ret ..
    · exact same_bc (same_ret ..) trivial
  · exact same_ret ..
  · exact same_bc (same_ret ..) trivial
  · exact same_bc (same_ret ..) trivial
  · exact same_bc (same_ret ..) trivial
  · split <;> first | exact same_bc (same_ret ..) trivial | trivial
theorem same_un (op : UnOp) (x : AV) : Same a (evUn op x a) := by
  unfold evUn
  split <;> first | trivial | exact same_ret .. | exact same_v _
theorem same_field (s : TypeId) (f : Nat) (x : AV) : Same a (evField s f x a) := by
  unfold evField
  split <;> first | trivial | exact same_ret ..
theorem same_idxAddr (t : TypeId) (x i : AV) : Same a (evIndexAddr t x i a) := by
  unfold evIndexAddr
  split <;> try trivial
  · split <;> first | trivial | exact same_bc (same_v _) trivial
  · split <;> first | trivial | exact same_bc (same_v _) trivial
  · split <;> first | trivial | exact same_bc (same_bc (same_v _) trivial) trivial
theorem same_idx (t : TypeId) (x i : AV) : Same a (evIndex t x i a) := by
  unfold evIndex
  split <;> try trivial
  · exact same_bc (same_v _) trivial
  · split <;> first | trivial | exact same_bc (same_ret ..) trivial
theorem same_slice (t : TypeId) (x : AV) (lo hi mx : Option AV) : Same a (evSlice t x lo hi mx a) := by
  unfold evSlice
  repeat' split
  all_goals first
    | trivial
    | exact same_bc (same_v _) (same_v _)
    | exact same_bc (same_bc (same_v _) (same_bc (same_v _) trivial)) trivial
    | (repeat' first | exact same_v _ | trivial | apply same_bc)
theorem same_assert (x : AV) (t : TypeId) (ok : Bool) : Same a (evAssert x t ok a) := by
  unfold evAssert
  split <;> try trivial
  · exact same_bc (same_bc (same_ret ..) trivial) trivial
  · split <;> first | trivial | exact same_bc (same_ret ..) trivial
theorem same_len (t : TypeId) (x : AV) : Same a (evLen t x a) := by
  unfold evLen
  split <;> try trivial
  split <;> trivial
theorem same_build (t : TypeId) (ps : List (Nat × AV)) : Same a (evBuild t ps a) := by
  unfold evBuild
  split <;> try trivial
  · exact same_bc (same_bc (same_ret ..) trivial) trivial
  · split <;> first | trivial | exact same_bc (same_ret ..) trivial
theorem same_pick (c x y : AV) : Same a (evPick c x y a) := by unfold evPick; split <;> trivial
theorem rd_same {op : Op} (h : cls0 op = .rd) (τ : F) : Same a (evOp op τ a) := by
  cases op <;> try (cases h; done)
  case load => exact same_load ..
  case lookup => exact same_lookup ..
  case convert => exact same_conv ..
  case binOp => exact same_bin ..
  case unOp => exact same_un ..
  case index => exact same_idx ..
  case indexAddr => exact same_idxAddr ..
  case field => exact same_field ..
  case slice => exact same_slice ..
  case typeAssert => exact same_assert ..
  case pick => exact same_pick ..
  case build => exact same_build ..
  case makeInterface => exact same_bc trivial (same_bc (same_v _) trivial)
  case makeFunc => exact same_bc (same_v _) trivial
  case call c =>
    obtain ⟨callee, args, ts⟩ := c
    show Same a (evCall _ τ a)
    unfold evCall
    cases callee with
    | value f => cases h
    | invoke r m => cases h
    | builtin b =>
      cases b <;> try (cases h; done)
      dsimp only
      unfold evBuiltin
      split <;> first | trivial | exact same_len .. | simp_all
theorem pu_same {op : Op} (h : cls0 op = .pu) {v : AV} {a' : W} (he : evOp op τ a = .val v a') (b : W) : evOp op τ b = .val v b := by
  cases op <;> try (cases h; done)
  case move x => cases he; rfl
  case assign x => cases he; rfl
  case fieldAddr s x f =>
    have he : evFieldAddr s f (evX x τ) a = .val v a' := he
    show evFieldAddr s f (evX x τ) b = _
    unfold evFieldAddr at he ⊢
    split at he
    · rename_i heq hx
      rw [bc_eq] at he
      split at he
      · cases he
      · rename_i hz; cases he; simp only [bc_eq, hz]; rfl
    · cases he
  case extract t i =>
    have he : evExtract (evX t τ) i a = .val v a' := he
    show evExtract (evX t τ) i b = _
    unfold evExtract at he ⊢
    split at he
    · rename_i vs hx
      cases hn : nth vs i with
      | none => rw [hn] at he; cases he
      | some u => rw [hn] at he; cases he; rfl
    · cases he
  case nilCheck x =>
    have he : evNilCheck (evX x τ) a = .val v a' := he
    show evNilCheck (evX x τ) b = _
    unfold evNilCheck at he ⊢
    split at he <;> first | (cases he; rfl) | cases he
  case call c =>
    obtain ⟨callee, args, ts⟩ := c
    cases callee with
    | value f => cases h
    | invoke r m => cases h
    | builtin b => cases b <;> cases h
/-- one new block, whatever the world -/
def FloatR (f : W → OR) : Prop := (∃ o g, o ≠ .none ∧ ∀ a, f a = wnew o g a) ∨ ∀ a, ∃ c, f a = .no c
theorem float_bc {c : Bool} {f : W → OR} {n : Nat} (h : FloatR f) : FloatR fun a => bc c (f a) (.no n) := by
  cases c with
  | false => exact .inr fun a => ⟨n, rfl⟩
  | true => exact h
theorem fl_float {op : Op} (h : cls0 op = .fl) (τ : F) : FloatR (evOp op τ) := by
  cases op <;> try (cases h; done)
  case alloc t =>
    show FloatR fun a => (match zeroOf t with | some z => bc (notTop z) (newRow t (cellsOf z) a) (.no 174) | none => .no 160)
    cases zeroOf t with
    | none => exact .inr fun a => ⟨_, rfl⟩
    | some z => exact float_bc (float_bc (.inl ⟨_, _, AObj.noConfusion, fun a => rfl⟩))
  case box t x => exact float_bc (float_bc (.inl ⟨_, _, AObj.noConfusion, fun a => rfl⟩))
  case buildSlice t n ps =>
    show FloatR fun a => evBuildSlice t n (evParts ps.toList τ) a
    unfold evBuildSlice
    cases undOf t with
    | none => exact .inr fun a => ⟨_, rfl⟩
    | some d =>
      cases d <;> try exact .inr fun a => ⟨_, rfl⟩
      rename_i e
      dsimp only
      cases sizeOf e with
      | none => exact .inr fun a => ⟨_, rfl⟩
      | some s =>
        cases zeroOf e with
        | none => exact .inr fun a => ⟨_, rfl⟩
        | some z =>
          dsimp only
          refine float_bc ?_
          split
          · exact float_bc (.inl ⟨_, _, AObj.noConfusion, fun a => rfl⟩)
          · exact .inr fun a => ⟨_, rfl⟩
  case makeMap t r =>
    show FloatR fun a => evMakeMap t (r.map fun y => evX y τ) a
    unfold evMakeMap
    cases r with
    | none => exact .inl ⟨_, _, AObj.noConfusion, fun a => rfl⟩
    | some y =>
      dsimp only [Option.map_some]
      split
      · exact .inl ⟨_, _, AObj.noConfusion, fun a => rfl⟩
      · exact .inr fun a => ⟨_, rfl⟩
  case call c =>
    obtain ⟨callee, args, ts⟩ := c
    cases callee with
    | value f => cases h
    | invoke r m => cases h
    | builtin b => cases b <;> cases h
theorem cls0_mu {op : Op} (h : cls0 op = .mu) : False := by
  cases op <;> try (cases h; done)
  case call c =>
    obtain ⟨callee, args, ts⟩ := c
    cases callee with
    | value f => cases h
    | invoke r m => cases h
    | builtin b => cases b <;> cases h
theorem cls_or {pm : PM} {op : Op} {c : CL} (h : cls pm op = c) : cls0 op = c ∨ (c = .mu ∧ ∃ i t d x y, pm = .mk i d ∧ op = .insert t (.tmp d) x y) := by
  cases pm with
  | none => exact .inl h
  | mk i d =>
    have h : cls1 d op = c := h
    unfold cls1 at h
    split at h
    · rename_i tt t' x y
      unfold clsT at h
      rw [bc_eq] at h
      split at h
      · rename_i hq
        have := Nat.eq_of_beq_eq_true hq
        subst this
        exact .inr ⟨h.symm, i, _, _, _, _, rfl, rfl⟩
      · exact .inl h
    · exact .inl h
theorem cls_pu {pm : PM} {op : Op} (h : cls pm op = .pu) : cls0 op = .pu := by rcases cls_or h with h | ⟨h, _⟩; exact h; cases h
theorem cls_rd {pm : PM} {op : Op} (h : cls pm op = .rd) : cls0 op = .rd := by rcases cls_or h with h | ⟨h, _⟩; exact h; cases h
theorem cls_fl {pm : PM} {op : Op} (h : cls pm op = .fl) : cls0 op = .fl := by rcases cls_or h with h | ⟨h, _⟩; exact h; cases h
theorem cls_ef {pm : PM} {op : Op} (h : cls pm op = .ef) : cls0 op = .ef := by rcases cls_or h with h | ⟨h, _⟩; exact h; cases h
theorem cls_mu {pm : PM} {op : Op} (h : cls pm op = .mu) : ∃ i t d x y, pm = .mk i d ∧ op = .insert t (.tmp d) x y := by
  rcases cls_or h with h | ⟨_, h⟩
  · exact (cls0_mu h).elim
  · exact h
theorem pmGo_spec : ∀ (l : List Oper) (j i d : Nat), pmGo l j = .mk i d → j ≤ i ∧ ∃ o, l[i - j]? = some o ∧ o.dst = some d ∧ isMk o.op = true
  | [], _, _, _, h => by cases h
  | o :: l, j, i, d, h => by
    simp only [pmGo, bc_eq] at h
    have next : pmGo l (Nat.succ j) = .mk i d → j ≤ i ∧ ∃ o', (o :: l)[i - j]? = some o' ∧ o'.dst = some d ∧ isMk o'.op = true := by
      intro h
      obtain ⟨h1, o', h2, h3⟩ := pmGo_spec l _ i d h
      have h1 : j + 1 ≤ i := h1
      refine ⟨by omega, o', ?_, h3⟩
      rw [show i - j = (i - (j + 1)) + 1 by omega, List.getElem?_cons_succ]
      exact h2
    split at h
    · rename_i hm
      split at h
      · rename_i d' hd
        injection h with h1 h2
        subst h1 h2
        exact ⟨Nat.le_refl _, o, by simp, hd, hm⟩
      · exact next h
    · exact next h
/- values that are the same -/
theorem fOp_val {op : Op} {v : AV} {a' : W} (h : fOp op τ a = .val v a') : evOp op τ a = .val v a' := by
  rcases fOp_le op τ a with ⟨c, e⟩ | e
  · rw [e] at h; cases h
  · rw [← e]; exact h
theorem fOp_call {op : Op} {f : FuncId} {vs : List AV} {a' : W} (h : fOp op τ a = .call f vs a') : evOp op τ a = .call f vs a' := by
  rcases fOp_le op τ a with ⟨c, e⟩ | e
  · rw [e] at h; cases h
  · rw [← e]; exact h
end
end Go.Ev
