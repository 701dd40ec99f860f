import Derived.Test.YtjakdjfepibedaaGreatDoorEvCe
import Derived.Orders
set_option linter.all false
namespace Go.Ev
/- Facts about single operations, for regions whose order is drawn. -/
section
variable {τ τ' : F} {a : W}
theorem evXs_congr {l : List Operand} (h : ∀ x ∈ l, evX x τ = evX x τ') : evXs l τ = evXs l τ' := List.map_congr_left h
theorem evParts_congr {l : List (Nat × Operand)} (h : ∀ x ∈ l.map (·.2), evX x τ = evX x τ') : evParts l τ = evParts l τ' :=
  List.map_congr_left fun p hp => by rw [h p.2 (List.mem_map.2 ⟨p, hp, rfl⟩)]
theorem evCall_congr {c : Call} (h : ∀ x ∈ c.operands, evX x τ = evX x τ') : evCall c τ a = evCall c τ' a := by
  have hx : evXs c.args.toList τ = evXs c.args.toList τ' := evXs_congr fun x hx => h x (by simp only [Call.operands, Array.mem_append]; right; simpa using hx)
  unfold evCall
  rw [hx]
  cases hc : c.callee with
  | value f => dsimp only; rw [h f (by simp [Call.operands, hc])]
  | invoke r m => dsimp only; rw [h r (by simp [Call.operands, hc])]
  | builtin b => rfl
theorem evDefer_congr {c : Call} (h : ∀ x ∈ c.operands, evX x τ = evX x τ') : evDefer c τ a = evDefer c τ' a := by
  have hx : evXs c.args.toList τ = evXs c.args.toList τ' := evXs_congr fun x hx => h x (by simp only [Call.operands, Array.mem_append]; right; simpa using hx)
  unfold evDefer
  rw [hx]
  cases hc : c.callee with
  | value f => dsimp only; rw [h f (by simp [Call.operands, hc])]
  | invoke r m => rfl
  | builtin b => rfl
theorem evOp_congr (op : Op) (h : ∀ x ∈ op.operands, evX x τ = evX x τ') : evOp op τ a = evOp op τ' a := by
  cases op <;> simp only [Op.operands] at h <;> dsimp only [evOp]
  case build t ps => rw [evParts_congr (fun x hx => h x (by simpa using hx))]
  case buildSlice t n ps => rw [evParts_congr (fun x hx => h x (by simpa using hx))]
  case makeFunc fn f c => rw [evXs_congr (l := f.toList) (fun x hx => h x (by simp; left; simpa using hx)), evXs_congr (l := c.toList) (fun x hx => h x (by simp; right; simpa using hx))]
  case makeMap t r => cases r with
    | none => rfl
    | some y => simp only [Option.map_some]; rw [h y (by simp)]
  case slice t x lo hi mx => cases lo <;> cases hi <;> cases mx <;> simp_all
  case call c => exact evCall_congr h
  case defer c => exact evDefer_congr h
  all_goals (first | rfl | (simp_all; done))
/-- an answer that leaves the world as it is -/
def Same (a : W) : OR → Prop
  | .val _ a' => a' = a
  | _ => True
theorem same_v (v : AV) : Same a (.val v a) := rfl
theorem same_bc {c : Bool} {x y : OR} (hx : Same a x) (hy : Same a y) : Same a (bc c x y) := by rw [bc_eq]; split <;> assumption
theorem same_ret (o : Option AV) (c : Nat) : Same a (retO o a c) := by cases o <;> trivial
theorem same_load (t : TypeId) (p : AV) : Same a (evLoad t p a) := by
  unfold evLoad
  split
  · unfold ldOne; split <;> try trivial
    · unfold ldWin; split <;> try trivial
      refine same_bc ?_ trivial
      split <;> trivial
    · split <;> trivial
  · unfold ldMany; split <;> try trivial
    split <;> trivial
  · trivial
theorem same_look (ok : Bool) (v : AV) (b : Bool) : Same a (lookR ok v b a) := by cases ok <;> trivial
theorem same_lookup (t : TypeId) (m k : AV) (ok : Bool) : Same a (evLookup t m k ok a) := by
  unfold evLookup
  refine same_bc ?_ ?_
  rotate_left
  · unfold evLookupS
    split <;> try trivial
    split
    · exact same_look ..
    · split
      · split
        · exact same_look ..
        · exact same_look ..
        · trivial
      · trivial
    · trivial
  split
  · exact same_look ..
  · split
    · split
      · exact same_look ..
      · exact same_look ..
      · trivial
    · split
      · exact same_look ..
      · exact same_look ..
      · trivial
    · trivial
  · trivial
theorem same_conv (s d : TypeId) (x : AV) : Same a (evConv s d x a) := by
  unfold evConv
  split <;> try trivial
  · split <;> try trivial
    split <;> trivial
  · split <;> try trivial
    exact same_bc (same_v _) (same_bc trivial (same_bc (same_v _) trivial))
  · split <;> try trivial
    exact same_bc (same_v _) trivial
theorem same_known (op : BinOp) (r : Bool) : Same a (eqKnown op r a) := by unfold eqKnown; split <;> trivial
theorem same_bin (op : BinOp) (t : TypeId) (x y : Operand) (p q : AV) : Same a (evBin op t x y p q a) := by
  unfold evBin
  split
  · split
    · exact same_ret ..
    · exact same_ret ..
    · exact same_bc (same_ret ..) trivial
  · exact same_ret ..
  · exact same_bc (same_ret ..) trivial
  · exact same_bc (same_ret ..) trivial
  · exact same_bc (same_ret ..) trivial
  · exact same_bc (same_known ..) trivial
  · exact same_bc (same_known ..) trivial
  · exact same_bc (same_known ..) trivial
  · split <;> first | exact same_bc (same_ret ..) trivial | trivial
theorem same_un (op : UnOp) (x : AV) : Same a (evUn op x a) := by
  unfold evUn
  split <;> first | trivial | exact same_ret .. | exact same_v _
theorem same_field (s : TypeId) (f : Nat) (x : AV) : Same a (evField s f x a) := by
  unfold evField
  split <;> first | trivial | exact same_ret ..
theorem same_idxAddr (t : TypeId) (x i : AV) : Same a (evIndexAddr t x i a) := by
  unfold evIndexAddr
  split <;> try trivial
  · split <;> first | trivial | exact same_bc (same_v _) trivial
  · split <;> first | trivial | exact same_bc (same_v _) trivial
  · split <;> first | trivial | exact same_bc (same_bc (same_v _) trivial) trivial
theorem same_idx (t : TypeId) (x i : AV) : Same a (evIndex t x i a) := by
  unfold evIndex
  split <;> try trivial
  · exact same_bc (same_v _) trivial
  · split <;> first | trivial | exact same_bc (same_ret ..) trivial
theorem same_slice (t : TypeId) (x : AV) (lo hi mx : Option AV) : Same a (evSlice t x lo hi mx a) := by
  unfold evSlice
  repeat' split
  all_goals first
    | trivial
    | exact same_bc (same_v _) (same_v _)
    | exact same_bc (same_bc (same_v _) (same_bc (same_v _) trivial)) trivial
    | (repeat' first | exact same_v _ | trivial | apply same_bc)
theorem same_assert (x : AV) (t : TypeId) (ok : Bool) : Same a (evAssert x t ok a) := by
  unfold evAssert
  split <;> try trivial
  · exact same_bc (same_bc (same_ret ..) trivial) trivial
  · split <;> first | trivial | exact same_bc (same_ret ..) trivial
theorem same_len (t : TypeId) (x : AV) : Same a (evLen t x a) := by
  unfold evLen
  split <;> try trivial
  split <;> trivial
theorem same_build (t : TypeId) (ps : List (Nat × AV)) : Same a (evBuild t ps a) := by
  unfold evBuild
  split <;> try trivial
  · exact same_bc (same_bc (same_ret ..) trivial) trivial
  · split <;> first | trivial | exact same_bc (same_ret ..) trivial
theorem same_pick (c x y : AV) : Same a (evPick c x y a) := by unfold evPick; split <;> trivial
theorem rd_same {op : Op} (h : cls0 op = .rd) (τ : F) : Same a (evOp op τ a) := by
  cases op <;> try (cases h; done)
  case load => exact same_load ..
  case lookup => exact same_lookup ..
  case convert => exact same_conv ..
  case binOp => exact same_bin ..
  case unOp => exact same_un ..
  case index => exact same_idx ..
  case indexAddr => exact same_idxAddr ..
  case field => exact same_field ..
  case slice => exact same_slice ..
  case typeAssert => exact same_assert ..
  case pick => exact same_pick ..
  case build => exact same_build ..
  case makeInterface => exact same_bc trivial (same_bc (same_v _) trivial)
  case makeFunc => exact same_bc (same_v _) trivial
  case call c =>
    obtain ⟨callee, args, ts⟩ := c
    show Same a (evCall _ τ a)
    unfold evCall
    cases callee with
    | value f => cases h
    | invoke r m => cases h
    | builtin b =>
      cases b <;> try (cases h; done)
      dsimp only
      unfold evBuiltin
      split <;> first | trivial | exact same_len .. | simp_all
theorem pu_same {op : Op} (h : cls0 op = .pu) {v : AV} {a' : W} (he : evOp op τ a = .val v a') (b : W) : evOp op τ b = .val v b := by
  cases op <;> try (cases h; done)
  case move x => cases he; rfl
  case assign x => cases he; rfl
  case fieldAddr s x f =>
    have he : evFieldAddr s f (evX x τ) a = .val v a' := he
    show evFieldAddr s f (evX x τ) b = _
    unfold evFieldAddr at he ⊢
    split at he
    · rename_i heq hx
      rw [bc_eq] at he
      split at he
      · cases he
      · rename_i hz; cases he; simp only [bc_eq, hz]; rfl
    · cases he
  case extract t i =>
    have he : evExtract (evX t τ) i a = .val v a' := he
    show evExtract (evX t τ) i b = _
    unfold evExtract at he ⊢
    split at he
    · rename_i vs hx
      cases hn : nth vs i with
      | none => rw [hn] at he; cases he
      | some u => rw [hn] at he; cases he; rfl
    · cases he
  case nilCheck x =>
    have he : evNilCheck (evX x τ) a = .val v a' := he
    show evNilCheck (evX x τ) b = _
    unfold evNilCheck at he ⊢
    split at he <;> first | (cases he; rfl) | cases he
  case call c =>
    obtain ⟨callee, args, ts⟩ := c
    cases callee with
    | value f => cases h
    | invoke r m => cases h
    | builtin b => cases b <;> cases h
/-- one new block, whatever the world -/
def FloatR (f : W → OR) : Prop := (∃ o g, o ≠ .none ∧ ∀ a, f a = wnew o g a) ∨ ∀ a, ∃ c, f a = .no c
theorem float_bc {c : Bool} {f : W → OR} {n : Nat} (h : FloatR f) : FloatR fun a => bc c (f a) (.no n) := by
  cases c with
  | false => exact .inr fun a => ⟨n, rfl⟩
  | true => exact h
theorem fl_float {op : Op} (h : cls0 op = .fl) (τ : F) : FloatR (evOp op τ) := by
  cases op <;> try (cases h; done)
  case alloc t =>
    show FloatR fun a => (match zeroOf t with | some z => bc (notTop z) (newRow t (cellsOf z) a) (.no 174) | none => .no 160)
    cases zeroOf t with
    | none => exact .inr fun a => ⟨_, rfl⟩
    | some z => exact float_bc (float_bc (.inl ⟨_, _, AObj.noConfusion, fun a => rfl⟩))
  case box t x => exact float_bc (float_bc (.inl ⟨_, _, AObj.noConfusion, fun a => rfl⟩))
  case buildSlice t n ps =>
    show FloatR fun a => evBuildSlice t n (evParts ps.toList τ) a
    unfold evBuildSlice
    cases undOf t with
    | none => exact .inr fun a => ⟨_, rfl⟩
    | some d =>
      cases d <;> try exact .inr fun a => ⟨_, rfl⟩
      rename_i e
      dsimp only
      cases sizeOf e with
      | none => exact .inr fun a => ⟨_, rfl⟩
      | some s =>
        cases zeroOf e with
        | none => exact .inr fun a => ⟨_, rfl⟩
        | some z =>
          dsimp only
          refine float_bc ?_
          split
          · exact float_bc (.inl ⟨_, _, AObj.noConfusion, fun a => rfl⟩)
          · exact .inr fun a => ⟨_, rfl⟩
  case makeMap t r =>
    show FloatR fun a => evMakeMap t (r.map fun y => evX y τ) a
    unfold evMakeMap
    cases r with
    | none => exact .inl ⟨_, _, AObj.noConfusion, fun a => rfl⟩
    | some y =>
      dsimp only [Option.map_some]
      split
      · exact .inl ⟨_, _, AObj.noConfusion, fun a => rfl⟩
      · exact .inr fun a => ⟨_, rfl⟩
  case call c =>
    obtain ⟨callee, args, ts⟩ := c
    cases callee with
    | value f => cases h
    | invoke r m => cases h
    | builtin b => cases b <;> cases h
theorem cls0_mu {op : Op} (h : cls0 op = .mu) : False := by
  cases op <;> try (cases h; done)
  case call c =>
    obtain ⟨callee, args, ts⟩ := c
    cases callee with
    | value f => cases h
    | invoke r m => cases h
    | builtin b => cases b <;> cases h
theorem cls_or {pm : PM} {op : Op} {c : CL} (h : cls pm op = c) : cls0 op = c ∨ (c = .mu ∧ ∃ i t d x y, pm = .mk i d ∧ op = .insert t (.tmp d) x y) := by
  cases pm with
  | none => exact .inl h
  | mk i d =>
    have h : cls1 d op = c := h
    unfold cls1 at h
    split at h
    · rename_i tt t' x y
      unfold clsT at h
      rw [bc_eq] at h
      split at h
      · rename_i hq
        have := Nat.eq_of_beq_eq_true hq
        subst this
        exact .inr ⟨h.symm, i, _, _, _, _, rfl, rfl⟩
      · exact .inl h
    · exact .inl h
theorem cls_pu {pm : PM} {op : Op} (h : cls pm op = .pu) : cls0 op = .pu := by rcases cls_or h with h | ⟨h, _⟩; exact h; cases h
theorem cls_rd {pm : PM} {op : Op} (h : cls pm op = .rd) : cls0 op = .rd := by rcases cls_or h with h | ⟨h, _⟩; exact h; cases h
theorem cls_fl {pm : PM} {op : Op} (h : cls pm op = .fl) : cls0 op = .fl := by rcases cls_or h with h | ⟨h, _⟩; exact h; cases h
theorem cls_ef {pm : PM} {op : Op} (h : cls pm op = .ef) : cls0 op = .ef := by rcases cls_or h with h | ⟨h, _⟩; exact h; cases h
theorem cls_mu {pm : PM} {op : Op} (h : cls pm op = .mu) : ∃ i t d x y, pm = .mk i d ∧ op = .insert t (.tmp d) x y := by
  rcases cls_or h with h | ⟨_, h⟩
  · exact (cls0_mu h).elim
  · exact h
theorem pmGo_spec : ∀ (l : List Oper) (j i d : Nat), pmGo l j = .mk i d → j ≤ i ∧ ∃ o, l[i - j]? = some o ∧ o.dst = some d ∧ isMk o.op = true
  | [], _, _, _, h => by cases h
  | o :: l, j, i, d, h => by
    simp only [pmGo, bc_eq] at h
    have next : pmGo l (Nat.succ j) = .mk i d → j ≤ i ∧ ∃ o', (o :: l)[i - j]? = some o' ∧ o'.dst = some d ∧ isMk o'.op = true := by
      intro h
      obtain ⟨h1, o', h2, h3⟩ := pmGo_spec l _ i d h
      have h1 : j + 1 ≤ i := h1
      refine ⟨by omega, o', ?_, h3⟩
      rw [show i - j = (i - (j + 1)) + 1 by omega, List.getElem?_cons_succ]
      exact h2
    split at h
    · rename_i hm
      split at h
      · rename_i d' hd
        injection h with h1 h2
        subst h1 h2
        exact ⟨Nat.le_refl _, o, by simp, hd, hm⟩
      · exact next h
    · exact next h
/- values that are the same -/
theorem fOp_val {op : Op} {v : AV} {a' : W} (h : fOp op τ a = .val v a') : evOp op τ a = .val v a' := by
  rcases fOp_le op τ a with ⟨c, e⟩ | e
  · rw [e] at h; cases h
  · rw [← e]; exact h
theorem fOp_call {op : Op} {f : FuncId} {vs : List AV} {a' : W} (h : fOp op τ a = .call f vs a') : evOp op τ a = .call f vs a' := by
  rcases fOp_le op τ a with ⟨c, e⟩ | e
  · rw [e] at h; cases h
  · rw [← e]; exact h
end
end Go.Ev
set_option linter.all false
namespace Go.Ev
/- The order of a region: what is surely run before what; what the checks say. -/
section
variable {pm : PM} {ops : Array Oper}
def Closed (ops : Array Oper) (L : Nat → Bool) : Prop := ∀ j o, ops[j]? = some o → L j = true → ∀ e ∈ o.after, Region.binds .any e = true → L e.on = true
theorem tb_eq (m i : Nat) : tb m i = m.testBit i := by
  have h : tb m i = Nat.beq ((m >>> i) &&& 1) 1 := rfl
  rw [h, Nat.testBit, Nat.and_comm]
  rcases Nat.mod_two_eq_zero_or_one (m >>> i) with e | e
  · have : 1 &&& (m >>> i) = 0 := by rw [Nat.one_and_eq_mod_two, e]
    rw [this]; rfl
  · have : 1 &&& (m >>> i) = 1 := by rw [Nat.one_and_eq_mod_two, e]
    rw [this]; rfl
theorem two256_eq : two256 = 2 ^ 256 := by decide
theorem fld_bit (M t i : Nat) : (fld M t).testBit i = (decide (i < 256) && M.testBit (t * 256 + i)) := by
  have h : fld M t = (M >>> (t * 256)) % two256 := rfl
  rw [h, two256_eq, Nat.testBit_mod_two_pow, Nat.testBit_shiftRight]
theorem fldOr_bit (M t m t' i : Nat) : (fld (fldOr M t m) t').testBit i = true ↔ (fld M t').testBit i = true ∨ (t' = t ∧ i < 256 ∧ m.testBit i = true) := by
  have h : fldOr M t m = M ||| ((m % two256) <<< (t * 256)) := rfl
  rw [fld_bit, fld_bit, h, two256_eq, Nat.testBit_or, Nat.testBit_shiftLeft, Nat.testBit_mod_two_pow]
  simp only [Bool.and_eq_true, Bool.or_eq_true, decide_eq_true_eq]
  constructor
  · rintro ⟨h1, h2 | ⟨h2, h3, h4⟩⟩
    · exact .inl ⟨h1, h2⟩
    · right
      have e : t' = t := by omega
      subst e
      refine ⟨rfl, h1, ?_⟩
      have : t' * 256 + i - t' * 256 = i := by omega
      rw [this] at h4; exact h4
  · rintro (⟨h1, h2⟩ | ⟨rfl, h1, h2⟩)
    · exact ⟨h1, .inl h2⟩
    · refine ⟨h1, .inr ⟨by omega, by omega, ?_⟩⟩
      have : t' * 256 + i - t' * 256 = i := by omega
      rw [this]; exact h2
theorem one_bit (j i : Nat) : (Nat.shiftLeft 1 j).testBit i = true ↔ i = j := by
  have h : Nat.shiftLeft 1 j = 2 ^ j := Nat.one_shiftLeft j
  rw [h, Nat.testBit_two_pow]
  simp only [decide_eq_true_eq]
  exact eq_comm
theorem subM_bit {x y i : Nat} (h : subM x y = true) (hx : x.testBit i = true) : y.testBit i = true := by
  have h : x &&& y = x := Nat.eq_of_beq_eq_true h
  rw [← h, Nat.testBit_and] at hx
  simp only [Bool.and_eq_true] at hx
  exact hx.2
theorem emask_bit : ∀ (es : List Edge) (B : Nat) (s i : Nat), Nat.testBit (emask es B s) i = true → Nat.testBit s i = true ∨ ∃ e ∈ es, Region.binds .any e = true ∧ (i = e.on ∨ (fld B e.on).testBit i = true)
  | [], _, _, _, h => .inl h
  | e :: es, B, s, i, h => by
    simp only [emask] at h
    rcases emask_bit es B _ i h with h | ⟨e', h1, h2, h3⟩
    · rw [bc_eq] at h
      split at h
      · rename_i hb
        have h : ((s ||| Nat.shiftLeft 1 e.on) ||| fld B e.on).testBit i = true := h
        rw [Nat.testBit_or, Nat.testBit_or] at h
        simp only [Bool.or_eq_true] at h
        rcases h with (h | h) | h
        · exact .inl h
        · exact .inr ⟨e, by simp, hb, .inl ((one_bit _ _).1 h)⟩
        · exact .inr ⟨e, by simp, hb, .inr h⟩
      · exact .inl h
    · exact .inr ⟨e', by simp [h1], h2, h3⟩
theorem bmGo_bit {L : Nat → Bool} (hc : Closed ops L) : ∀ (l : List Oper) (j B : Nat), ops.toList.drop j = l →
    (∀ x i, (fld B x).testBit i = true → L x = true → L i = true) → ∀ x i, (fld (bmGo l j B) x).testBit i = true → L x = true → L i = true
  | [], _, _, _, h => h
  | o :: l, j, B, hl, h => by
    have ho : ops[j]? = some o := by
      have := congrArg (·[0]?) hl
      simpa using this
    refine bmGo_bit hc l _ _ ?_ ?_
    · have := congrArg List.tail hl
      simpa using this
    · intro x i hi hL
      rcases (fldOr_bit _ _ _ _ _).1 hi with hi | ⟨rfl, _, hi⟩
      · exact h x i hi hL
      · rcases emask_bit _ _ _ _ hi with h0 | ⟨e, h1, h2, h3⟩
        · simp at h0
        · have hle := hc _ o ho hL e (by simpa using h1) h2
          rcases h3 with h3 | h3
          · rw [h3]; exact hle
          · exact h _ i h3 hle
theorem isBef_closed {L : Nat → Bool} (hc : Closed ops L) {i j : Nat} (h : isBef ops i j = true) (hj : L j = true) : L i = true := by
  unfold isBef bmask bmAll at h
  rw [tb_eq] at h
  exact bmGo_bit hc ops.toList 0 0 rfl (by intro x i h; rw [fld_bit] at h; simp at h) j i h hj
theorem allN_iff {p : Nat → Bool} : ∀ n, allN p n = true ↔ ∀ i, i < n → p i = true
  | 0 => ⟨fun _ i h => by omega, fun _ => rfl⟩
  | n + 1 => by
    simp only [allN, bc_eq]
    constructor
    · intro h i hi
      split at h
      · rename_i hp
        rcases Nat.lt_or_ge i n with h1 | h1
        · exact (allN_iff n).1 h i h1
        · have : i = n := by omega
          rw [this]; exact hp
      · cases h
    · intro h
      rw [if_pos (h n (by omega))]
      exact (allN_iff n).2 fun i hi => h i (by omega)
theorem opsLen_eq (ops : Array Oper) : opsLen ops = ops.size := by unfold opsLen; rw [llen_eq]; simp
theorem nth_ops (ops : Array Oper) (j : Nat) : nth ops.toList j = ops[j]? := by rw [nth_eq]; simp
theorem clsAt_eq {j : Nat} {o : Oper} (h : ops[j]? = some o) : clsAt pm ops j = cls pm o.op := by unfold clsAt; rw [nth_ops, h]
theorem hasB_iff (d : Nat) : ∀ l, hasB d l = true ↔ d ∈ l
  | [] => by simp [hasB]
  | x :: l => by
    simp only [hasB, bc_eq, List.mem_cons]
    split
    · rename_i h; rw [Nat.eq_of_beq_eq_true h]; simp
    · rename_i h
      rw [hasB_iff d l]
      constructor
      · exact .inr
      · rintro (h' | h')
        · subst h'; exact absurd (Nat.beq_refl _) h
        · exact h'
theorem tmpsOf_mem {t : Nat} : ∀ {l : List Operand}, .tmp t ∈ l → t ∈ tmpsOf l
  | x :: l, h => by
    rcases List.mem_cons.1 h with h | h
    · subst h; simp [tmpsOf]
    · have := tmpsOf_mem h
      cases x <;> simp [tmpsOf, this]
theorem lt_of_blt {i j : Nat} (h : Nat.blt i j = true) : i < j := Nat.le_of_ble_eq_true h
theorem blt_of_lt {i j : Nat} (h : i < j) : Nat.blt i j = true := Nat.ble_eq_true_of_le h
theorem bc_imp {x y : Bool} : bc x y true = true ↔ (x = true → y = true) := by cases x <;> cases y <;> simp [bc_eq]
structure Drawn (pm : PM) (ops : Array Oper) : Prop where
  edge : ∀ j o, ops[j]? = some o → ∀ e ∈ o.after, Region.binds .any e = true → e.on < j
  tmp : ∀ i j oi oj d, i ≠ j → ops[i]? = some oi → ops[j]? = some oj → oi.dst = some d → d ∈ looksA ops.toList oj → (i < j → isBef ops i j = true) ∧ (j < i → isBef ops j i = true)
  eff : ∀ i j oi oj, i < j → ops[i]? = some oi → ops[j]? = some oj → cls pm oi.op = .ef → cls pm oj.op = .ef → isBef ops i j = true
theorem edgesOk_spec {j : Nat} : ∀ {l : List Edge}, edgesOk j l = true → ∀ e ∈ l, Region.binds .any e = true → e.on < j
  | e :: l, h, x, hx, hb => by
    simp only [edgesOk] at h
    obtain ⟨h1, h2⟩ := bc_and.1 h
    rcases List.mem_cons.1 hx with e' | e'
    · subst e'; exact lt_of_blt (bc_imp.1 h1 hb)
    · exact edgesOk_spec h2 x e' hb
theorem tmpsIn_spec {Wm b : Nat} : ∀ {l : List Nat}, tmpsIn Wm b l = true → ∀ t ∈ l, subM (fld Wm t) b = true
  | t :: l, h, x, hx => by
    obtain ⟨h1, h2⟩ := bc_and.1 h
    rcases List.mem_cons.1 hx with e | e
    · rw [e]; exact h1
    · exact tmpsIn_spec h2 x e
theorem addR_bit {j : Nat} (hj : j < 256) : ∀ (l : List Nat) (Rm t i : Nat), (fld Rm t).testBit i = true ∨ (i = j ∧ t ∈ l) → (fld (addR j l Rm) t).testBit i = true
  | [], _, _, _, h => by
    rcases h with h | ⟨_, h⟩
    · exact h
    · cases h
  | u :: l, Rm, t, i, h => by
    refine addR_bit hj l _ t i ?_
    rcases h with h | ⟨h1, h2⟩
    · exact .inl ((fldOr_bit _ _ _ _ _).2 (.inl h))
    · rcases List.mem_cons.1 h2 with e | e
      · exact .inl ((fldOr_bit _ _ _ _ _).2 (.inr ⟨e, by omega, (one_bit _ _).2 h1⟩))
      · exact .inr ⟨h1, e⟩
theorem addW_bit {j : Nat} (hj : j < 256) {Wm t i : Nat} {dst : Option Nat} (h : (fld Wm t).testBit i = true ∨ (i = j ∧ dst = some t)) : (fld (addW Wm j dst) t).testBit i = true := by
  cases dst with
  | none =>
    rcases h with h | ⟨_, h⟩
    · exact h
    · cases h
  | some d =>
    rcases h with h | ⟨h1, h2⟩
    · exact (fldOr_bit _ _ _ _ _).2 (.inl h)
    · injection h2 with h2
      exact (fldOr_bit _ _ _ _ _).2 (.inr ⟨h2.symm, by omega, (one_bit _ _).2 h1⟩)
theorem dOkGo_spec (hn : ops.size ≤ 256) : ∀ (l : List Oper) (j Wm Rm Em : Nat), ops.toList.drop j = l → dOkGo pm ops.toList (bmAll ops) l j Wm Rm Em = true →
    (∀ i oi t, i < j → ops[i]? = some oi → oi.dst = some t → (fld Wm t).testBit i = true) → (∀ i oi t, i < j → ops[i]? = some oi → t ∈ looksA ops.toList oi → (fld Rm t).testBit i = true) →
    (∀ i oi, i < j → ops[i]? = some oi → cls pm oi.op = .ef → Em.testBit i = true) →
    ∀ k o, j ≤ k → ops[k]? = some o → edgesOk k o.after.toList = true ∧ (∀ i oi t, i < k → ops[i]? = some oi → oi.dst = some t → t ∈ looksA ops.toList o → isBef ops i k = true) ∧
      (∀ i oi t, i < k → ops[i]? = some oi → o.dst = some t → t ∈ looksA ops.toList oi → isBef ops i k = true) ∧ (∀ i oi, i < k → ops[i]? = some oi → cls pm oi.op = .ef → cls pm o.op = .ef → isBef ops i k = true)
  | [], j, _, _, _, hl, _, _, _, _, k, o, hjk, hk => by
    have h1 := (Array.getElem?_eq_some_iff.1 hk).1
    have := congrArg List.length hl
    simp at this
    omega
  | o' :: l, j, Wm, Rm, Em, hl, h, hW, hR, hE, k, o, hjk, hk => by
    have ho : ops[j]? = some o' := by
      have := congrArg (·[0]?) hl
      simpa using this
    have hj : j < ops.size := (Array.getElem?_eq_some_iff.1 ho).1
    have hl' : ops.toList.drop (j + 1) = l := by
      have := congrArg List.tail hl
      simpa using this
    simp only [dOkGo] at h
    obtain ⟨k1, h⟩ := bc_and.1 h
    obtain ⟨k2, h⟩ := bc_and.1 h
    obtain ⟨k3, h⟩ := bc_and.1 h
    obtain ⟨k4, h⟩ := bc_and.1 h
    have key : ∀ i, (fld (bmAll ops) j).testBit i = true → isBef ops i j = true := by
      intro i hi; unfold isBef bmask; rw [tb_eq]; exact hi
    rcases Nat.eq_or_lt_of_le hjk with e | e
    · subst e
      rw [ho] at hk; cases hk
      refine ⟨k1, ?_, ?_, ?_⟩
      · intro i oi t hi hoi hd ht
        exact key i (subM_bit (tmpsIn_spec k2 t ht) (hW i oi t hi hoi hd))
      · intro i oi t hi hoi hd ht
        rw [hd] at k3
        exact key i (subM_bit k3 (hR i oi t hi hoi ht))
      · intro i oi hi hoi h1 h2
        rw [h2] at k4
        exact key i (subM_bit k4 (hE i oi hi hoi h1))
    · refine dOkGo_spec hn l (j + 1) _ _ _ hl' h ?_ ?_ ?_ k o (by omega) hk
      · intro i oi t hi hoi hd
        rcases Nat.lt_or_ge i j with q | q
        · exact addW_bit (by omega) (.inl (hW i oi t q hoi hd))
        · have : i = j := by omega
          subst this
          rw [ho] at hoi; cases hoi
          exact addW_bit (by omega) (.inr ⟨rfl, hd⟩)
      · intro i oi t hi hoi ht
        rcases Nat.lt_or_ge i j with q | q
        · exact addR_bit (by omega) _ _ _ _ (.inl (hR i oi t q hoi ht))
        · have : i = j := by omega
          subst this
          rw [ho] at hoi; cases hoi
          exact addR_bit (by omega) _ _ _ _ (.inr ⟨rfl, ht⟩)
      · intro i oi hi hoi hc
        rw [bc_eq]
        have mono : Em.testBit i = true → (Nat.lor Em (Nat.shiftLeft 1 j)).testBit i = true := by
          intro q
          have : (Em ||| Nat.shiftLeft 1 j).testBit i = true := by rw [Nat.testBit_or, q]; rfl
          exact this
        rcases Nat.lt_or_ge i j with q | q
        · split
          · exact mono (hE i oi q hoi hc)
          · exact hE i oi q hoi hc
        · have : i = j := by omega
          subst this
          rw [ho] at hoi; cases hoi
          rw [hc, if_pos (show isEf CL.ef = true from rfl)]
          have : (Em ||| Nat.shiftLeft 1 i).testBit i = true := by rw [Nat.testBit_or, (one_bit i i).2 rfl, Bool.or_true]
          exact this
theorem drawOk_spec (h : drawOk pm ops = true) : Drawn pm ops := by
  unfold drawOk at h
  obtain ⟨h1, h2⟩ := bc_and.1 h
  rw [opsLen_eq] at h1
  have hn := Nat.le_of_ble_eq_true h1
  have key := dOkGo_spec hn ops.toList 0 0 0 0 rfl h2 (fun i _ _ h => by omega) (fun i _ _ h => by omega) (fun i _ h => by omega)
  refine ⟨fun j o ho e he hb => edgesOk_spec (key j o (by omega) ho).1 e (by simpa using he) hb, ?_, ?_⟩
  · intro i j oi oj d hne hi hj hd hl
    exact ⟨fun q => (key j oj (by omega) hj).2.1 i oi d q hi hd hl, fun q => (key i oi (by omega) hi).2.2.1 j oj d q hj hd hl⟩
  · intro i j oi oj hlt hi hj e1 e2
    exact (key j oj (by omega) hj).2.2.2 i oi hlt hi e1 e2
theorem allL_iff {p : Nat → Bool} : ∀ l, allL p l = true ↔ ∀ i ∈ l, p i = true
  | [] => ⟨fun _ i h => (by cases h), fun _ => rfl⟩
  | x :: l => by
    simp only [allL]
    rw [bc_and, allL_iff l]
    simp
theorem effsGo_mem : ∀ (l : List Oper) (j : Nat), ops.toList.drop j = l → ∀ x o, j ≤ x → ops[x]? = some o → cls pm o.op = .ef → x ∈ effsGo pm l j
  | [], j, hl, x, o, hx, ho, _ => by
    have h1 := (Array.getElem?_eq_some_iff.1 ho).1
    have := congrArg List.length hl
    simp at this
    omega
  | o' :: l, j, hl, x, o, hx, ho, hc => by
    have ho' : ops[j]? = some o' := by
      have := congrArg (·[0]?) hl
      simpa using this
    have hl' : ops.toList.drop (j + 1) = l := by
      have := congrArg List.tail hl
      simpa using this
    simp only [effsGo, bc_eq]
    rcases Nat.eq_or_lt_of_le hx with e | e
    · subst e
      rw [ho'] at ho; cases ho
      rw [hc, if_pos (show isEf CL.ef = true from rfl)]; simp
    · have := effsGo_mem l (j + 1) hl' x o (by omega) ho hc
      split
      · exact List.mem_cons_of_mem _ this
      · exact this
theorem effsGo_lt : ∀ (l : List Oper) (j : Nat), ops.toList.drop j = l → ∀ x ∈ effsGo pm l j, ∃ o, ops[x]? = some o ∧ cls pm o.op = .ef
  | [], _, _, x, h => by cases h
  | o' :: l, j, hl, x, h => by
    have ho' : ops[j]? = some o' := by
      have := congrArg (·[0]?) hl
      simpa using this
    have hl' : ops.toList.drop (j + 1) = l := by
      have := congrArg List.tail hl
      simpa using this
    simp only [effsGo, bc_eq] at h
    split at h
    · rename_i hc
      rcases List.mem_cons.1 h with e | e
      · subst e
        refine ⟨o', ho', ?_⟩
        cases hcl : cls pm o'.op <;> rw [hcl] at hc <;> first | rfl | cases hc
      · exact effsGo_lt l (j + 1) hl' x e
    · exact effsGo_lt l (j + 1) hl' x h
/- how many are left -/
def un (L : Nat → Bool) : Nat → Nat
  | 0 => 0
  | n + 1 => un L n + bif L n then 0 else 1
theorem un_zero {L : Nat → Bool} : ∀ n, un L n = 0 → ∀ i, i < n → L i = true
  | n + 1, h, i, hi => by
    simp only [un] at h
    rcases Nat.lt_or_ge i n with h1 | h1
    · exact un_zero n (by omega) i h1
    · have : i = n := by omega
      subst this
      cases hL : L i with
      | true => rfl
      | false => rw [hL] at h; simp at h
theorem un_all {L : Nat → Bool} : ∀ n, (∀ i, i < n → L i = true) → un L n = 0
  | 0, _ => rfl
  | n + 1, h => by simp only [un, un_all n fun i hi => h i (by omega), h n (by omega), cond_true]
theorem un_congr {L L' : Nat → Bool} : ∀ n, (∀ i, i < n → L i = L' i) → un L n = un L' n
  | 0, _ => rfl
  | n + 1, h => by simp only [un, un_congr n fun i hi => h i (by omega), h n (by omega)]
def upL (L : Nat → Bool) (j : Nat) : Nat → Bool := fun i => if i = j then true else L i
theorem upL_same (L : Nat → Bool) (j : Nat) : upL L j j = true := by simp [upL]
theorem upL_ne (L : Nat → Bool) {i j : Nat} (h : i ≠ j) : upL L j i = L i := by simp [upL, h]
theorem un_up {L : Nat → Bool} {j : Nat} (hj : L j = false) : ∀ n, j < n → un L n = un (upL L j) n + 1
  | n + 1, h => by
    simp only [un]
    rcases Nat.lt_or_ge j n with h1 | h1
    · rw [un_up hj n h1, upL_ne L (by omega)]; omega
    · have : j = n := by omega
      subst this
      rw [upL_same, hj, un_congr (L' := L) j (fun i hi => upL_ne L (by omega))]
      simp
/-- what the machine's table of the operations done says -/
def ofArr (listed : Array Bool) : Nat → Bool := fun i => listed.getD i false
theorem ofArr_set {listed : Array Bool} {j : Nat} (h : j < listed.size) : ofArr (listed.setIfInBounds j true) = upL (ofArr listed) j := by
  funext i
  simp only [ofArr, upL, Array.getD_eq_getD_getElem?, Array.getElem?_setIfInBounds]
  by_cases e : i = j
  · subst e; simp [h]
  · rw [if_neg (Ne.symm e), if_neg e]
theorem ready_spec {listed : Array Bool} (hs : listed.size = ops.size) {j : Nat} (h : j ∈ Region.ready .any ops listed) :
    ofArr listed j = false ∧ ∃ o, ops[j]? = some o ∧ ∀ e ∈ o.after, Region.binds .any e = true → ofArr listed e.on = true := by
  obtain ⟨h1, o, ho, h2⟩ := mem_ready.1 h
  have hj := (Array.getElem?_eq_some_iff.1 ho).1
  refine ⟨?_, o, ho, h2⟩
  unfold ofArr
  rw [Array.getD_eq_getD_getElem?] at h1 ⊢
  rw [Array.getElem?_eq_getElem (by omega)] at h1 ⊢
  exact h1
theorem ready_nil (hd : Drawn pm ops) {listed : Array Bool} (hs : listed.size = ops.size) (h : Region.ready .any ops listed = []) : ∀ j, j < ops.size → ofArr listed j = true := by
  intro j
  induction j using Nat.strongRecOn with
  | _ j ih =>
    intro hj
    cases hL : ofArr listed j with
    | true => rfl
    | false =>
      exfalso
      have : j ∈ Region.ready .any ops listed := by
        refine mem_ready.2 ⟨?_, ops[j], Array.getElem?_eq_getElem hj, fun e he hb => ?_⟩
        · unfold ofArr at hL
          rw [Array.getD_eq_getD_getElem?] at hL ⊢
          rw [Array.getElem?_eq_getElem (by omega)] at hL ⊢
          exact hL
        · have hlt := hd.edge j ops[j] (Array.getElem?_eq_getElem hj) e he hb
          exact ih e.on hlt (by omega)
      rw [h] at this
      cases this
end
end Go.Ev
set_option linter.all false
namespace Go.Ev
/- Blocks that are made and not yet taken into the abstract heap. -/
def PF.i : PF → Nat | .mk i _ _ => i
def PF.k : PF → K | .mk _ k _ => k
def PF.o : PF → AObj | .mk _ _ o => o
/-- a block behind N that stands for key k as o says, and that the abstract heap does not have -/
structure Held (N : Nat) (ρ : Env) (a : W) (w : World) (k : K) (o : AObj) : Prop where
  ex : ∃ c, ρ k = some c ∧ N ≤ c ∧ c < w.heap.size ∧ ORel ρ o (w.heap[c]?) ∧ (∀ l, hget l a.h ≠ .none → ρ l ≠ some c) ∧ ∀ arr t fz, w.heap[c]? = some (.cells arr t fz) → arr.size = ρ.sz k
section
variable {N : Nat} {ρ ρ' ρ0 : Env} {a a' a0 : W} {w w' w0 : World} {k l : K} {o p : AObj}
theorem Held.adv (h : Held N ρ a w k o) (e : Adv ρ a w ρ' a' w') : Held N ρ' a' w' k o := by
  obtain ⟨c, h1, h2, h3, h4, h5, h6⟩ := h.ex
  have hn : ¬ Own ρ a c := fun ⟨l, q1, _, q3⟩ => h5 l q1 q3
  have hx := e.frame c h3 hn
  refine ⟨c, (e.le _ _ h1).1, h2, Nat.lt_of_lt_of_le h3 e.size, by rw [hx]; exact h4.mono e.le, ?_, ?_⟩
  · intro l hl hc
    rcases e.keep l c hl hc with ⟨m, q1, q2⟩ | q
    · exact h5 m q1 q2
    · omega
  · intro arr t fz hh
    rw [hx] at hh
    rw [(e.le _ _ h1).2]
    exact h6 arr t fz hh
theorem Held.wset (h : Held N ρ a w k o) (e : ρ l ≠ ρ k) : Held N ρ (wset l p a) w k o := by
  obtain ⟨c, h1, h2, h3, h4, h5, h6⟩ := h.ex
  refine ⟨c, h1, h2, h3, h4, ?_, h6⟩
  intro m hm hc
  rw [wset_eq] at hm
  simp only [W.h_mk] at hm
  by_cases x : m = l
  · subst x; rw [h1] at e; exact e hc
  · rw [hget_hset_ne x] at hm; exact h5 m hm hc
theorem adopt1 (h : Adv ρ0 a0 w0 ρ a w) (hh : Held w0.heap.size ρ a w k o) : Adv ρ0 a0 w0 ρ (wset k o a) w := by
  obtain ⟨c, h1, h2, h3, h4, h5, h6⟩ := hh.ex
  clear hh
  have hr := h.rel
  rw [wset_eq]
  have old : ∀ l, l ≠ k → hget l (hset k o a.h) = hget l a.h := fun l hl => hget_hset_ne hl o a.h
  refine ⟨⟨?_, ?_, ?_⟩, h.le, h.rng, h.nx, h.size, ?_, ?_, h.frame, h.os, h.tape, h.output⟩
  · intro x y hx hy e
    simp only [W.h_mk] at hx hy
    by_cases x1 : x = k
    · by_cases y1 : y = k
      · rw [x1, y1]
      · rw [old y y1] at hy; subst x1; rw [h1] at e; exact absurd e.symm (h5 y hy)
    · rw [old x x1] at hx
      by_cases y1 : y = k
      · subst y1; rw [h1] at e; exact absurd e (h5 x hx)
      · rw [old y y1] at hy; exact hr.inj x y hx hy e
  · intro x hx
    simp only [W.h_mk] at hx ⊢
    by_cases x1 : x = k
    · subst x1; rw [hget_hset_same]; exact ⟨c, h1, h4⟩
    · rw [old x x1] at hx ⊢; exact hr.dom x hx
  · intro x d arr t fz hx hd hh
    simp only [W.h_mk] at hx
    by_cases x1 : x = k
    · subst x1; rw [h1] at hd; injection hd with hd; subst hd; exact h6 arr t fz hh
    · rw [old x x1] at hx; exact hr.len x d arr t fz hx hd hh
  · rintro d ⟨x, hx, hro, hd⟩
    simp only [W.h_mk] at hx hro
    by_cases x1 : x = k
    · subst x1; rw [h1] at hd; injection hd with hd; right; omega
    · rw [old x x1] at hx hro; exact h.own d ⟨x, hx, hro, hd⟩
  · intro x d hx hd
    simp only [W.h_mk] at hx
    by_cases x1 : x = k
    · subst x1; rw [h1] at hd; injection hd with hd; right; omega
    · rw [old x x1] at hx; exact h.keep x d hx hd
theorem adopt_ok (m : Nat) : ∀ (l : List PF), (∀ p ∈ l, tb m p.i = true → Held w0.heap.size ρ a w p.k p.o) → l.Pairwise (fun p q => tb m p.i = true → tb m q.i = true → ρ p.k ≠ ρ q.k) → Adv ρ0 a0 w0 ρ a w →
    Adv ρ0 a0 w0 ρ (dAdopt m l a) w ∧ ∀ k o, Held w0.heap.size ρ a w k o → (∀ p ∈ l, tb m p.i = true → ρ p.k ≠ ρ k) → Held w0.heap.size ρ (dAdopt m l a) w k o
  | [], _, _, h => ⟨h, fun _ _ h _ => h⟩
  | .mk i k o :: l, hp, hd, h => by
    obtain ⟨h1, h2⟩ := adopt_ok m l (fun p hl => hp p (List.mem_cons_of_mem _ hl)) (List.pairwise_cons.1 hd).2 h
    simp only [dAdopt]
    rw [bc_eq]
    split
    · rename_i hb
      have hk : Held w0.heap.size ρ (dAdopt m l a) w k o := h2 k o (hp (.mk i k o) (by simp) hb) fun p hl hb' => ((List.pairwise_cons.1 hd).1 p hl hb hb').symm
      refine ⟨adopt1 h1 hk, fun k' o' h' hne => ?_⟩
      exact (h2 k' o' h' fun p hl hb => hne p (List.mem_cons_of_mem _ hl) hb).wset (hne (.mk i k o) (by simp) hb)
    · exact ⟨h1, fun k' o' h' hne => h2 k' o' h' fun p hl hb => hne p (List.mem_cons_of_mem _ hl) hb⟩
theorem all_ok : ∀ (l : List PF), (∀ p ∈ l, Held w0.heap.size ρ a w p.k p.o) → l.Pairwise (fun p q => ρ p.k ≠ ρ q.k) → Adv ρ0 a0 w0 ρ a w →
    Adv ρ0 a0 w0 ρ (dAll l a) w ∧ ∀ k o, Held w0.heap.size ρ a w k o → (∀ p ∈ l, ρ p.k ≠ ρ k) → Held w0.heap.size ρ (dAll l a) w k o
  | [], _, _, h => ⟨h, fun _ _ h _ => h⟩
  | .mk i k o :: l, hp, hd, h => by
    obtain ⟨h1, h2⟩ := all_ok l (fun p hl => hp p (List.mem_cons_of_mem _ hl)) (List.pairwise_cons.1 hd).2 h
    simp only [dAll]
    have hk : Held w0.heap.size ρ (dAll l a) w k o := h2 k o (hp (.mk i k o) (by simp)) fun p hl => ((List.pairwise_cons.1 hd).1 p hl).symm
    refine ⟨adopt1 h1 hk, fun k' o' h' hne => ?_⟩
    exact (h2 k' o' h' fun p hl => hne p (List.mem_cons_of_mem _ hl)).wset (hne (.mk i k o) (by simp))
theorem nx_wset (k : K) (o : AObj) (a : W) : (wset k o a).nx = a.nx := by rw [wset_eq]; rfl
theorem nx_adopt (m : Nat) : ∀ (l : List PF) (a : W), (dAdopt m l a).nx = a.nx
  | [], _ => rfl
  | .mk i k o :: l, a => by
    simp only [dAdopt]
    rw [bc_eq]
    split
    · rw [nx_wset, nx_adopt m l a]
    · exact nx_adopt m l a
theorem nx_all : ∀ (l : List PF) (a : W), (dAll l a).nx = a.nx
  | [], _ => rfl
  | .mk i k o :: l, a => by simp only [dAll]; rw [nx_wset, nx_all l a]
/-- a world whose next key is another one -/
theorem WRel.rekeyed {h : H4} {nx nx' : K} (e : WRel ρ (.mk h nx) w) : WRel ρ (.mk h nx') w := ⟨e.inj, e.dom, e.len⟩
/-- a heap that does not know one key -/
theorem Adv.forget {a2 : W} (h : Adv ρ0 a0 w0 ρ a2 w) (hk : hget k a.h = .none) (hs : ∀ l, l ≠ k → hget l a.h = hget l a2.h) (hn : a.nx = a2.nx) : Adv ρ0 a0 w0 ρ a w := by
  have at_ : ∀ l, hget l a.h ≠ .none → hget l a2.h = hget l a.h := by
    intro l hl
    refine (hs l ?_).symm
    rintro rfl; exact hl hk
  have ne : ∀ l, hget l a.h ≠ .none → hget l a2.h ≠ .none := fun l hl => by rw [at_ l hl]; exact hl
  refine ⟨⟨fun x y hx hy e => h.rel.inj x y (ne x hx) (ne y hy) e, fun x hx => ?_, fun x c arr t fz hx hc hh => h.rel.len x c arr t fz (ne x hx) hc hh⟩, h.le, fun x => by rw [hn]; exact h.rng x, by rw [hn]; exact h.nx, h.size, ?_, fun x c hx hc => h.keep x c (ne x hx) hc, h.frame, h.os, h.tape, h.output⟩
  · obtain ⟨c, h1, h2⟩ := h.rel.dom x (ne x hx); exact ⟨c, h1, by rw [at_ x hx] at h2; exact h2⟩
  · rintro c ⟨x, hx, hr, hc⟩; exact h.own c ⟨x, ne x hx, by rw [at_ x hx]; exact hr, hc⟩
theorem Held.forget {a2 : W} (h : Held N ρ a2 w l o) (hk : hget k a.h = .none) (hs : ∀ l, l ≠ k → hget l a.h = hget l a2.h) : Held N ρ a w l o := by
  obtain ⟨c, h1, h2, h3, h4, h5, h6⟩ := h.ex
  refine ⟨c, h1, h2, h3, h4, fun m hm => h5 m ?_, h6⟩
  rw [← hs m (by rintro rfl; exact hm hk)]
  exact hm
theorem Held.of_rel {a2 : W} {c : Nat} (hr : WRel ρ a2 w) (hk2 : hget k a2.h = o) (ho : o ≠ .none) (hc : ρ k = some c) (hN : N ≤ c) (hk : hget k a.h = .none) (hs : ∀ l, l ≠ k → hget l a.h = hget l a2.h) : Held N ρ a w k o := by
  obtain ⟨c', h1, h2⟩ := hr.dom k (by rw [hk2]; exact ho)
  rw [hc] at h1; cases h1
  rw [hk2] at h2
  obtain ⟨y, hy⟩ := h2.some ho
  refine ⟨c, hc, hN, (Array.getElem?_eq_some_iff.1 hy).1, h2, fun m hm e => ?_, fun arr t fz hh => hr.len k c arr t fz (by rw [hk2]; exact ho) hc hh⟩
  have hne : m ≠ k := by rintro rfl; exact hm hk
  exact hne (hr.inj m k (by rw [← hs m hne]; exact hm) (by rw [hk2]; exact ho) (by rw [e, hc]))
theorem Held.conv {p : AObj} (h : Held N ρ a w k o) (hc : ∀ x, ORel ρ o x → ORel ρ p x) : Held N ρ a w k p := by
  obtain ⟨c, h1, h2, h3, h4, h5, h6⟩ := h.ex
  exact ⟨c, h1, h2, h3, hc _ h4, h5, h6⟩
/-- a block that is made and held -/
theorem adv_float {h : H4} {nx key : K} (hA : Adv ρ0 a0 w0 ρ (.mk h nx) w) (hf : Adv ρ (.mk h key) w ρ' (.mk (hset key o h) key.succ) w') (hm : key.isMax = false) (hk : ρ key = none)
    (h1 : a0.nx.num ≤ key.num) (h2 : key.num < nx.num) (ho : o ≠ .none) :
    Adv ρ0 a0 w0 ρ' (.mk h nx) w' ∧ Held w0.heap.size ρ' (.mk h nx) w' key o ∧ (∀ k, k ≠ key → ρ' k = ρ k) ∧ (∃ c, ρ' key = some c ∧ w.heap.size ≤ c ∧ c < w'.heap.size) ∧ ∀ k p, Held N ρ (.mk h nx) w k p → Held N ρ' (.mk h nx) w' k p ∧ ρ' k ≠ ρ' key := by
  have hsucc : key.succ.num = key.num + 1 := K.succ_num hm
  have same : ∀ k, k ≠ key → ρ' k = ρ k := by
    intro k hne
    rcases hf.rng k with e | e
    · exact e
    · simp only [W.nx_mk] at e
      exact absurd (K.num_inj (by omega)) hne
  have hnone : hget key h = .none := by
    by_cases e : hget key h = .none
    · exact e
    · obtain ⟨c, hc, _⟩ := hA.rel.dom key e; rw [hk] at hc; cases hc
  have old : ∀ k, k ≠ key → hget k (hset key o h) = hget k h := fun k hne => hget_hset_ne hne o h
  have ne : ∀ k, hget k h ≠ .none → k ≠ key := by rintro k hk' rfl; exact hk' hnone
  obtain ⟨c, hc, hor⟩ := hf.rel.dom key (by simp only [W.h_mk]; rw [hget_hset_same]; exact ho)
  simp only [W.h_mk] at hor
  rw [hget_hset_same] at hor
  obtain ⟨y, hy⟩ := hor.some ho
  have hlt : c < w'.heap.size := (Array.getElem?_eq_some_iff.1 hy).1
  have hfresh : ∀ l, hget l h ≠ .none → ρ' l ≠ some c := by
    intro l hl he
    have hl' : hget l (hset key o h) ≠ .none := by rw [old l (ne l hl)]; exact hl
    have := hf.rel.inj l key (by simpa only [W.h_mk] using hl') (by simp only [W.h_mk]; rw [hget_hset_same]; exact ho) (by rw [he, hc])
    exact ne l hl this
  have hge : w.heap.size ≤ c := by
    rcases hf.keep key c (by simp only [W.h_mk]; rw [hget_hset_same]; exact ho) hc with ⟨l, q1, q2⟩ | q
    · exact absurd (hf.le _ _ q2).1 (hfresh l q1)
    · exact q
  have hs0 := hA.size
  have rel : WRel ρ' (.mk h nx) w' := by
    refine ⟨?_, ?_, ?_⟩
    · intro x y hx hy e
      simp only [W.h_mk] at hx hy
      exact hf.rel.inj x y (by simp only [W.h_mk]; rw [old x (ne x hx)]; exact hx) (by simp only [W.h_mk]; rw [old y (ne y hy)]; exact hy) e
    · intro x hx
      simp only [W.h_mk] at hx ⊢
      have := hf.rel.dom x (by simp only [W.h_mk]; rw [old x (ne x hx)]; exact hx)
      simp only [W.h_mk] at this
      rw [old x (ne x hx)] at this
      exact this
    · intro x d arr t fz hx hd hh
      simp only [W.h_mk] at hx
      exact hf.rel.len x d arr t fz (by simp only [W.h_mk]; rw [old x (ne x hx)]; exact hx) hd hh
  refine ⟨⟨rel, Env.le_trans hA.le hf.le, ?_, hA.nx, Nat.le_trans hA.size hf.size, ?_, ?_, ?_, hf.os.trans hA.os, hf.tape.trans hA.tape, hf.output.trans hA.output⟩, ⟨c, hc, by omega, hlt, hor, hfresh, ?_⟩, same, ⟨c, hc, hge, hlt⟩, ?_⟩
  · intro x
    by_cases e : x = key
    · subst e; right; simp only [W.nx_mk]; omega
    · rw [same x e]; exact hA.rng x
  · rintro d ⟨x, hx, hro, hd⟩
    simp only [W.h_mk] at hx hro
    rw [same x (ne x hx)] at hd
    exact hA.own d ⟨x, hx, hro, hd⟩
  · intro x d hx hd
    simp only [W.h_mk] at hx
    rw [same x (ne x hx)] at hd
    exact hA.keep x d hx hd
  · intro d hd hn
    rw [hf.frame d (by omega) ?_]
    · exact hA.frame d hd hn
    · rintro ⟨x, hx, hro, hd'⟩
      rcases hA.own d ⟨x, hx, hro, hd'⟩ with e | e
      · exact hn e
      · omega
  · intro arr t fz hh
    exact hf.rel.len key c arr t fz (by simp only [W.h_mk]; rw [hget_hset_same]; exact ho) hc hh
  · intro k p hp
    obtain ⟨d, q1, q2, q3, q4, q5, q6⟩ := hp.ex
    have hn : ¬ Own ρ (.mk h key) d := fun ⟨l, r1, _, r3⟩ => q5 l r1 r3
    have hx := hf.frame d q3 hn
    have hle := hf.le _ _ q1
    refine ⟨⟨d, hle.1, q2, Nat.lt_of_lt_of_le q3 hf.size, by rw [hx]; exact q4.mono hf.le, ?_, ?_⟩, ?_⟩
    · intro l hl he
      simp only [W.h_mk] at hl
      rw [same l (ne l hl)] at he
      exact q5 l hl he
    · intro arr t fz hh
      rw [hx] at hh
      rw [hle.2]
      exact q6 arr t fz hh
    · rw [hle.1, hc]
      intro e
      injection e with e
      omega
end
end Go.Ev
