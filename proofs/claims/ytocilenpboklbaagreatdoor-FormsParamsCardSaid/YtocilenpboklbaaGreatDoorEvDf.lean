import Derived.Test.YtocilenpboklbaaGreatDoorEvCe
import Derived.Orders
set_option linter.all false
namespace Go.Ev
variable [Gv]
section
variable {τ τ' : F} {a : W}
theorem rn {l : List Operand} (h : ∀ x ∈ l, evX x τ = evX x τ') : vn l τ = vn l τ' := List.map_congr_left h
theorem aa0 {l : List (Nat × Operand)} (h : ∀ x ∈ l.map (·.2), evX x τ = evX x τ') : qh l τ = qh l τ' :=
 List.map_congr_left fun p hp => by rw [h p.2 (List.mem_map.2 ⟨p, hp, rfl⟩)]
theorem aoh {c : Call} (h : ∀ x ∈ c.operands, evX x τ = evX x τ') : xm c τ a = xm c τ' a := by
 have hx : vn c.args.toList τ = vn c.args.toList τ' := rn fun x hx => h x (by simp only [Call.operands, Array.mem_append]; right; simpa using hx)
 unfold xm
 rw [hx]
 cases hc : c.callee with
 | value f => dsimp only; rw [h f (by simp [Call.operands, hc])]
 | invoke r m => dsimp only; rw [h r (by simp [Call.operands, hc])]
 | builtin b => rfl
theorem al4 {c : Call} (h : ∀ x ∈ c.operands, evX x τ = evX x τ') : o5 c τ a = o5 c τ' a := by
 have hx : vn c.args.toList τ = vn c.args.toList τ' := rn fun x hx => h x (by simp only [Call.operands, Array.mem_append]; right; simpa using hx)
 unfold o5
 rw [hx]
 cases hc : c.callee with
 | value f => dsimp only; rw [h f (by simp [Call.operands, hc])]
 | invoke r m => rfl
 | builtin b => rfl
theorem aya (op : Op) (h : ∀ x ∈ op.operands, evX x τ = evX x τ') : aei op τ a = aei op τ' a := by
 cases op <;> simp only [Op.operands] at h <;> dsimp only [aei]
 case build t ps => rw [aa0 (fun x hx => h x (by simpa using hx))]
 case buildSlice t n ps => rw [aa0 (fun x hx => h x (by simpa using hx))]
 case makeFunc fn f c => rw [rn (l := f.toList) (fun x hx => h x (by simp; left; simpa using hx)), rn (l := c.toList) (fun x hx => h x (by simp; right; simpa using hx))]
 case makeMap t r => cases r with
  | none => rfl
  | some y => simp only [Option.map_some]; rw [h y (by simp)]
 case slice t x lo hi mx => cases lo <;> cases hi <;> cases mx <;> simp_all
 case call c => exact aoh h
 case defer c => exact al4 h
 all_goals (first | rfl | (simp_all; done))
theorem awa {c : Call} {n : Nat} (h : ∀ x ∈ c.operands, evX x τ = evX x τ') : xOp (.call c) τ a n = xOp (.call c) τ' a n := by
 obtain ⟨callee, args, ts⟩ := c
 have hx : vn args.toList τ = vn args.toList τ' := rn fun x hx => h x (by simp only [Call.operands, Array.mem_append]; right; simpa using hx)
 cases callee <;> simp only [xOp, hx]
theorem a8e (op : Op) (n : Nat) (h : ∀ x ∈ op.operands, evX x τ = evX x τ') : xOp op τ a n = xOp op τ' a n := by
 cases op <;> simp only [Op.operands] at h <;> try dsimp only [xOp]
 case call c => exact awa h
 case slice t x lo hi mx => cases lo <;> cases hi <;> cases mx <;> simp_all
 all_goals (first | rfl | (simp_all; done))
theorem an5 (op : Op) (h : ∀ x ∈ op.operands, evX x τ = evX x τ') : zOp op τ a = zOp op τ' a := by
 unfold zOp
 rw [aya op h]
 congr 1
 split
 ·exact a8e op _ h
 ·rfl
def jc (a : W) : OR → Prop
 | .val _ a' => a' = a
 | _ => True
theorem mc (v : AV) : jc a (.val v a) := rfl
theorem bf {c : Bool} {x y : OR} (hx : jc a x) (hy : jc a y) : jc a (bc c x y) := by rw [ac]; split <;> assumption
theorem gu (o : Option AV) (c : Nat) : jc a (sa o a c) := by cases o <;> trivial
theorem a7y (t : TypeId) (p : AV) : jc a (vm t p a) := by
 unfold vm
 split
 ·unfold at8; split <;> try trivial
  ·unfold bda; split <;> try trivial
   refine bf ?_ trivial
   split <;> trivial
  ·split <;> trivial
 ·unfold aju; split <;> try trivial
  split <;> trivial
 ·trivial
theorem jv (ok : Bool) (v : AV) (b : Bool) : jc a (ru ok v b a) := by cases ok <;> trivial
theorem avh (t : TypeId) (m k : AV) (ok : Bool) : jc a (xn t m k ok a) := by
 unfold xn
 refine bf ?_ ?_
 rotate_left
 ·unfold zd
  split <;> try trivial
  split
  ·exact jv ..
  ·split
   ·split
    ·exact jv ..
    ·exact jv ..
    ·trivial
   ·trivial
  ·trivial
 split
 ·exact jv ..
 ·split
  ·split
   ·exact jv ..
   ·exact jv ..
   ·trivial
  ·split
   ·exact jv ..
   ·exact jv ..
   ·trivial
  ·trivial
 ·trivial
theorem a7x (s d : TypeId) (x : AV) : jc a (ai4 s d x a) := by
 unfold ai4
 split <;> try trivial
 ·split <;> try trivial
  split <;> trivial
 ·split <;> try trivial
  exact bf (mc _) (bf trivial (bf (mc _) trivial))
 ·split <;> try trivial
  exact bf (mc _) trivial
theorem abv (op : BinOp) (r : Bool) : jc a (vk op r a) := by unfold vk; split <;> trivial
theorem bfj (op : BinOp) (t : TypeId) (x y : Operand) (p q : AV) : jc a (as5 op t x y p q a) := by
 unfold as5
 split
 ·split
  ·exact gu ..
  ·exact gu ..
  ·exact bf (gu ..) trivial
 ·exact gu ..
 ·exact bf (gu ..) trivial
 ·exact bf (gu ..) trivial
 ·exact bf (gu ..) trivial
 ·exact bf (abv ..) trivial
 ·exact bf (abv ..) trivial
 ·exact bf (abv ..) trivial
 ·split <;> first | exact bf (gu ..) trivial | trivial
theorem biu (op : UnOp) (x : AV) : jc a (bal op x a) := by
 unfold bal
 split <;> first | trivial | exact gu .. | exact mc _
theorem azb (s : TypeId) (f : Nat) (x : AV) : jc a (aco s f x a) := by
 unfold aco
 split <;> first | trivial | exact gu ..
theorem apr (t : TypeId) (x i : AV) : jc a (pb t x i a) := by
 unfold pb
 split <;> try trivial
 ·split <;> first | trivial | exact bf (mc _) trivial
 ·split <;> first | trivial | exact bf (mc _) trivial
 ·split <;> first | trivial | exact bf (bf (mc _) trivial) trivial
theorem bfk (t : TypeId) (x i : AV) : jc a (acp t x i a) := by
 unfold acp
 split <;> try trivial
 ·exact bf (mc _) trivial
 ·split <;> first | trivial | exact bf (gu ..) trivial
theorem azd (t : TypeId) (x : AV) (lo hi mx : Option AV) : jc a (acr t x lo hi mx a) := by
 unfold acr
 repeat' split
 all_goals first
  | trivial
  | exact bf (mc _) (mc _)
  | exact bf (bf (mc _) (bf (mc _) trivial)) trivial
  | (repeat' first | exact mc _ | trivial | apply bf)
theorem avg (x : AV) (t : TypeId) (ok : Bool) : jc a (xl x t ok a) := by
 unfold xl
 split <;> try trivial
 ·exact bf (bf (gu ..) trivial) trivial
 ·split <;> first | trivial | exact bf (gu ..) trivial
theorem bfl (t : TypeId) (x : AV) : jc a (as6 t x a) := by
 unfold as6
 split <;> try trivial
 split <;> trivial
theorem aza (t : TypeId) (ps : List (Nat × AV)) : jc a (acn t ps a) := by
 unfold acn
 split <;> try trivial
 ·exact bf (bf (gu ..) trivial) trivial
 ·split <;> first | trivial | exact bf (gu ..) trivial
theorem a70 (c x y : AV) : jc a (ai5 c x y a) := by unfold ai5; split <;> trivial
theorem bfd {op : Op} (h : aav op = .rd) (τ : F) : jc a (aei op τ a) := by
 cases op <;> try (cases h; done)
 case load => exact a7y ..
 case lookup => exact avh ..
 case convert => exact a7x ..
 case binOp => exact bfj ..
 case unOp => exact biu ..
 case index => exact bfk ..
 case indexAddr => exact apr ..
 case field => exact azb ..
 case slice => exact azd ..
 case typeAssert => exact avg ..
 case pick => exact a70 ..
 case build => exact aza ..
 case makeInterface => exact bf trivial (bf (mc _) trivial)
 case makeFunc => exact bf (mc _) trivial
 case call c =>
  obtain ⟨callee, args, ts⟩ := c
  show jc a (xm _ τ a)
  unfold xm
  cases callee with
  | value f => cases h
  | invoke r m => cases h
  | builtin b =>
    cases b <;> try (cases h; done)
    dsimp only
    unfold zb
    split <;> first | trivial | exact bfl .. | simp_all
theorem be7 {op : Op} (h : aav op = .pu) {v : AV} {a' : W} (he : aei op τ a = .val v a') (b : W) : aei op τ b = .val v b := by
 cases op <;> try (cases h; done)
 case move x => cases he; rfl
 case assign x => cases he; rfl
 case fieldAddr s x f =>
  have he : mh s f (evX x τ) a = .val v a' := he
  show mh s f (evX x τ) b = _
  unfold mh at he ⊢
  split at he
  ·rename_i heq hx
   rw [ac] at he
   split at he
   ·cases he
   ·rename_i hz; cases he; simp only [ac, hz]; rfl
  ·cases he
 case extract t i =>
  have he : qv (evX t τ) i a = .val v a' := he
  show qv (evX t τ) i b = _
  unfold qv at he ⊢
  split at he
  ·rename_i vs hx
   cases hn : nth vs i with
   | none => rw [hn] at he; cases he
   | some u => rw [hn] at he; cases he; rfl
  ·cases he
 case nilCheck x =>
  have he : om (evX x τ) a = .val v a' := he
  show om (evX x τ) b = _
  unfold om at he ⊢
  split at he <;> first | (cases he; rfl) | cases he
 case call c =>
  obtain ⟨callee, args, ts⟩ := c
  cases callee with
  | value f => cases h
  | invoke r m => cases h
  | builtin b => cases b <;> cases h
def va (f : W → OR) : Prop := (∃ o g, (o ≠ .none ∧ bg o = none ∧ o.isRo = false) ∧ ∀ a, f a = n8 o g a) ∨ ∀ a, ∃ c, f a = .no c
theorem uq {c : Bool} {f : W → OR} {n : Nat} (h : va f) : va fun a => bc c (f a) (.no n) := by
 cases c with
 | false => exact .inr fun a => ⟨n, rfl⟩
 | true => exact h
theorem a62 {op : Op} (h : aav op = .fl) (τ : F) : va (aei op τ) := by
 cases op <;> try (cases h; done)
 case alloc t =>
  show va fun a => (match jb t with | some z => bc (li z) (newRow t (cellsOf z) a) (.no 174) | none => .no 160)
  cases jb t with
  | none => exact .inr fun a => ⟨_, rfl⟩
  | some z => exact uq (uq (.inl ⟨_, _, ⟨AObj.noConfusion, rfl, rfl⟩, fun a => rfl⟩))
 case box t x => exact uq (uq (.inl ⟨_, _, ⟨AObj.noConfusion, rfl, rfl⟩, fun a => rfl⟩))
 case buildSlice t n ps =>
  show va fun a => nd t n (qh ps.toList τ) a
  unfold nd
  cases ax t with
  | none => exact .inr fun a => ⟨_, rfl⟩
  | some d =>
    cases d <;> try exact .inr fun a => ⟨_, rfl⟩
    rename_i e
    dsimp only
    cases sizeOf e with
    | none => exact .inr fun a => ⟨_, rfl⟩
    | some s =>
      cases jb e with
      | none => exact .inr fun a => ⟨_, rfl⟩
      | some z =>
        dsimp only
        refine uq ?_
        split
        ·exact uq (.inl ⟨_, _, ⟨AObj.noConfusion, rfl, rfl⟩, fun a => rfl⟩)
        ·exact .inr fun a => ⟨_, rfl⟩
 case makeMap t r =>
  show va fun a => ui t (r.map fun y => evX y τ) a
  unfold ui
  cases r with
  | none => exact .inl ⟨_, _, ⟨AObj.noConfusion, rfl, rfl⟩, fun a => rfl⟩
  | some y =>
    dsimp only [Option.map_some]
    split
    ·exact .inl ⟨_, _, ⟨AObj.noConfusion, rfl, rfl⟩, fun a => rfl⟩
    ·exact .inr fun a => ⟨_, rfl⟩
 case call c =>
  obtain ⟨callee, args, ts⟩ := c
  cases callee with
  | value f => cases h
  | invoke r m => cases h
  | builtin b => cases b <;> cases h
theorem cj {x y : SE} {A : List SA} {r : Bool} {c : Nat} {k : OR} (h : jc a k) : jc a (kj x y A r c k) := by
 unfold kj
 split
 ·exact bf h trivial
 ·trivial
theorem azf (t : TypeId) (p : AV) (c : Nat) : jc a (axq t p a c) := by
 unfold axq
 split <;> try trivial
 ·split <;> try trivial
  ·refine bf (cj ?_) trivial
   split
   ·split <;> first | rfl | trivial
   ·split <;> first | rfl | trivial
   ·trivial
  ·unfold ary
   refine bf ?_ trivial
   split <;> first | rfl | trivial
 ·split <;> try trivial
  ·refine bf (cj ?_) ?_
   ·split <;> first | rfl | trivial
   ·unfold arz
    split <;> try trivial
    refine bf (cj (cj (cj ?_))) trivial
    split <;> first | rfl | trivial
  ·refine bf (cj ?_) trivial
   split <;> first | rfl | trivial
theorem azc (ok : Bool) (z : AV) (c : Nat) (r : Nat ⊕ Option AV) : jc a (bdj ok z a c r) := by
 unfold bdj
 split <;> first | exact jv .. | trivial
theorem aps (t : TypeId) (m k : AV) (ok : Bool) (c : Nat) : jc a (ad9 t m k ok a c) := by
 unfold ad9
 split <;> try trivial
 split <;> try trivial
 ·split <;> try trivial
  exact bf (azc ..) trivial
 ·split <;> try trivial
  refine bf ?_ trivial
  split <;> first | exact jv .. | trivial
theorem aze (s d : TypeId) (x : AV) (c : Nat) : jc a (awb s d x a c) := by
 unfold awb
 split <;> first | rfl | trivial
theorem avi (s d : TypeId) (x : AV) (c : Nat) : jc a (alj s d x a c) := by
 unfold alj
 split
 ·split <;> try trivial
  ·unfold aq3
   split <;> first | exact bf rfl trivial | trivial
  ·split <;> first | exact bf rfl trivial | trivial
 ·exact aze ..
theorem avj (r : Bool) (t : TypeId) (x y : AV) (c : Nat) : jc a (afg r t x y a c) := by
 unfold afg
 split
 ·rfl
 ·split <;> try trivial
  split <;> trivial
theorem a71 (op : BinOp) (t : TypeId) (x y : Operand) (b d : AV) (c : Nat) : jc a (bf3 op t x y b d a c) := by
 unfold bf3
 split
 ·unfold ah1
  split
  ·exact cj rfl
  ·split <;> first | rfl | trivial
  ·split <;> first | rfl | trivial
  ·trivial
 ·split
  ·refine bf ?_ (bf ?_ trivial)
   ·unfold ar0
    split <;> first | exact cj rfl | trivial
   ·unfold a4i
    split <;> first | rfl | trivial
  ·refine bf ?_ trivial
   split <;> first | exact avj .. | trivial
theorem avk (t : TypeId) (x i : AV) (c : Nat) : jc a (als t x i a c) := by
 unfold als
 split <;> first | exact cj (cj rfl) | trivial
theorem af9 (t : TypeId) (x i : AV) (c : Nat) : jc a (sk t x i a c) := by
 unfold sk
 split <;> try trivial
 ·refine bf ?_ trivial
  split <;> try trivial
  exact bf (cj (cj rfl)) trivial
 ·split <;> first | exact cj (cj rfl) | trivial
theorem avl (t : TypeId) (x : AV) (lo hi mx : Option AV) (c : Nat) : jc a (alu t x lo hi mx a c) := by
 unfold alu
 split
 ·unfold ar1
  split <;> try trivial
  split <;> first | rfl | trivial
 ·unfold ahz
  split <;> try trivial
  split <;> try trivial
  exact bf (cj (cj (cj (cj rfl)))) trivial
 ·unfold ah0
  split <;> try trivial
  split <;> try trivial
  exact cj (cj (cj rfl))
theorem a72 (t : TypeId) (x : AV) (c : Nat) : jc a (bgd t x a c) := by
 unfold bgd
 split <;> first | rfl | trivial
theorem bgi {op : Op} (h : aav op = .rd) (τ : F) (c : Nat) : jc a (xOp op τ a c) := by
 cases op <;> try (cases h; done)
 case load => exact azf ..
 case lookup => exact aps ..
 case convert => exact avi ..
 case binOp => exact a71 ..
 case index => exact avk ..
 case indexAddr => exact af9 ..
 case slice => exact avl ..
 case call d =>
  obtain ⟨callee, args, ts⟩ := d
  cases callee with
  | value f => cases h
  | invoke r m => cases h
  | builtin b =>
    cases b <;> try (cases h; done)
    show jc a (yf _ _ _ a c)
    unfold yf
    split <;> first | exact a72 .. | trivial | simp_all
 all_goals trivial
theorem a7z {r : OR} (h : jc a r) : jc a (mj r) := by cases r <;> exact h
theorem a23 {op : Op} (h : aav op = .rd) (τ : F) : jc a (zOp op τ a) := by
 unfold zOp
 refine a7z ?_
 split
 ·exact bgi h τ _
 ·exact bfd h τ
theorem aat {op : Op} (h : ∀ c, xOp op τ a c = .no c) : zOp op τ a = mj (aei op τ a) := by
 unfold zOp
 congr 1
 split
 ·rename_i c hc; rw [h, hc]
 ·rfl
theorem a7h {r : OR} {v : AV} {a' : W} (h : mj r = .val v a') : ∃ u, r = .val u a' ∧ v = aj5 u := by
 cases r <;> simp only [mj] at h <;> try (cases h; done)
 injection h with h1 h2
 subst h1 h2
 exact ⟨_, rfl, rfl⟩
theorem bth {op : Op} (h : aav op = .pu) (c : Nat) : xOp op τ a c = .no c := by
 cases op <;> try (cases h; done)
 case call d =>
  obtain ⟨callee, args, ts⟩ := d
  cases callee with
  | value f => cases h
  | invoke r m => cases h
  | builtin b => cases b <;> cases h
 all_goals rfl
theorem bss {op : Op} (h : aav op = .fl) (c : Nat) : xOp op τ a c = .no c := by
 cases op <;> try (cases h; done)
 case call d =>
  obtain ⟨callee, args, ts⟩ := d
  cases callee with
  | value f => cases h
  | invoke r m => cases h
  | builtin b => cases b <;> cases h
 all_goals rfl
theorem bim {op : Op} (h : aav op = .pu) {v : AV} {a' : W} (he : zOp op τ a = .val v a') (b : W) : zOp op τ b = .val v b := by
 rw [aat (bth h)] at he ⊢
 obtain ⟨u, h1, rfl⟩ := a7h he
 rw [be7 h h1 b]; rfl
theorem ayc {f : W → OR} (h : va f) : va fun a => mj (f a) := by
 rcases h with ⟨o, g, h1, h2⟩ | h
 ·refine .inl ⟨o, fun k => aj5 (g k), h1, fun a => ?_⟩
  show mj (f a) = _
  rw [h2]
  cases a with
  | mk hh nx =>
    show mj (bc nx.isMax (.no 1) (.val (g nx) (.mk (ce nx o hh) nx.succ))) = bc nx.isMax (.no 1) (.val (aj5 (g nx)) (.mk (ce nx o hh) nx.succ))
    cases nx.isMax <;> rfl
 ·exact .inr fun a => by obtain ⟨c, e⟩ := h a; exact ⟨c, by show mj (f a) = _; rw [e]; rfl⟩
theorem bau {op : Op} (h : aav op = .fl) (τ : F) : va (zOp op τ) := by
 have e : zOp op τ = fun a => mj (aei op τ a) := funext fun a => aat (bss h)
 rw [e]; exact ayc (a62 h τ)
theorem bgs {op : Op} (h : aav op = .mu) : False := by
 cases op <;> try (cases h; done)
 case call c =>
  obtain ⟨callee, args, ts⟩ := c
  cases callee with
  | value f => cases h
  | invoke r m => cases h
  | builtin b => cases b <;> cases h
theorem aoc {pm : PM} {op : Op} {c : CL} (h : cls pm op = c) : aav op = c ∨ (c = .mu ∧ ∃ i t d x y, pm = .mk i d ∧ op = .insert t (.tmp d) x y) := by
 cases pm with
 | none => exact .inl h
 | mk i d =>
   have h : bgt d op = c := h
   unfold bgt at h
   split at h
   ·rename_i tt t' x y
    unfold boa at h
    rw [ac] at h
    split at h
    ·rename_i hq
     have := zW hq
     subst this
     exact .inr ⟨h.symm, i, _, _, _, _, rfl, rfl⟩
    ·exact .inl h
   ·exact .inl h
theorem bl0 {pm : PM} {op : Op} (h : cls pm op = .pu) : aav op = .pu := by rcases aoc h with h | ⟨h, _⟩; exact h; cases h
theorem a8y {pm : PM} {op : Op} (h : cls pm op = .rd) : aav op = .rd := by rcases aoc h with h | ⟨h, _⟩; exact h; cases h
theorem bly {pm : PM} {op : Op} (h : cls pm op = .fl) : aav op = .fl := by rcases aoc h with h | ⟨h, _⟩; exact h; cases h
theorem blz {pm : PM} {op : Op} (h : cls pm op = .mu) : ∃ i t d x y, pm = .mk i d ∧ op = .insert t (.tmp d) x y := by
 rcases aoc h with h | ⟨_, h⟩
 ·exact (bgs h).elim
 ·exact h
theorem ann : ∀ (l : List Oper) (j i d : Nat), a7r l j = .mk i d → j ≤ i ∧ ∃ o, l[i - j]? = some o ∧ o.dst = some d ∧ bmz o.op = true
 | [], _, _, _, h => by cases h
 | o :: l, j, i, d, h => by
   simp only [a7r, ac] at h
   have next : a7r l (Nat.succ j) = .mk i d → j ≤ i ∧ ∃ o', (o :: l)[i - j]? = some o' ∧ o'.dst = some d ∧ bmz o'.op = true := by
    intro h
    obtain ⟨h1, o', h2, h3⟩ := ann l _ i d h
    have h1 : j + 1 ≤ i := h1
    refine ⟨by omega, o', ?_, h3⟩
    rw [show i - j = (i - (j + 1)) + 1 by omega, List.getElem?_cons_succ]
    exact h2
   split at h
   ·rename_i hm
    split at h
    ·rename_i d' hd
     injection h with h1 h2
     subst h1 h2
     exact ⟨zY _, o, by simp, hd, hm⟩
    ·exact next h
   ·exact next h
theorem ajg {op : Op} {v : AV} {a' : W} (h : gD op τ a = .val v a') : zOp op τ a = .val v a' := by rw [← bax]; exact h
theorem aoq {op : Op} {f : FuncId} {vs : List AV} {a' : W} (h : gD op τ a = .call f vs a') : zOp op τ a = .call f vs a' := by rw [← bax]; exact h
end
end Go.Ev
set_option linter.all false
namespace Go.Ev
variable [Gv]
section
variable {pm : PM} {ops : Array Oper}
def im (ops : Array Oper) (L : Nat → Bool) : Prop := ∀ j o, ops[j]? = some o → L j = true → ∀ e ∈ o.after, Region.binds .any e = true → L e.on = true
theorem blf (m i : Nat) : tb m i = m.testBit i := by
 have h : tb m i = Nat.beq ((m >>> i) &&& 1) 1 := rfl
 rw [h, Nat.testBit, Nat.and_comm]
 rcases Nat.mod_two_eq_zero_or_one (m >>> i) with e | e
 ·have : 1 &&& (m >>> i) = 0 := by rw [Nat.one_and_eq_mod_two, e]
  rw [this]; rfl
 ·have : 1 &&& (m >>> i) = 1 := by rw [Nat.one_and_eq_mod_two, e]
  rw [this]; rfl
theorem an0 : alc = 2 ^ 256 := by decide
theorem aoo (M t i : Nat) : (fld M t).testBit i = (decide (i < 256) && M.testBit (t * 256 + i)) := by
 have h : fld M t = (M >>> (t * 256)) % alc := rfl
 rw [h, an0, Nat.testBit_mod_two_pow, Nat.testBit_shiftRight]
theorem uo (M t m t' i : Nat) : (fld (atb M t m) t').testBit i = true ↔ (fld M t').testBit i = true ∨ (t' = t ∧ i < 256 ∧ m.testBit i = true) := by
 have h : atb M t m = M ||| ((m % alc) <<< (t * 256)) := rfl
 rw [aoo, aoo, h, an0, Nat.testBit_or, Nat.testBit_shiftLeft, Nat.testBit_mod_two_pow]
 simp only [zU, Bool.or_eq_true, decide_eq_true_eq]
 constructor
 ·rintro ⟨h1, h2 | ⟨h2, h3, h4⟩⟩
  ·exact .inl ⟨h1, h2⟩
  ·right
   have e : t' = t := by omega
   subst e
   refine ⟨rfl, h1, ?_⟩
   have : t' * 256 + i - t' * 256 = i := by omega
   rw [this] at h4; exact h4
 ·rintro (⟨h1, h2⟩ | ⟨rfl, h1, h2⟩)
  ·exact ⟨h1, .inl h2⟩
  ·refine ⟨h1, .inr ⟨by omega, by omega, ?_⟩⟩
   have : t' * 256 + i - t' * 256 = i := by omega
   rw [this]; exact h2
theorem agl (j i : Nat) : (Nat.shiftLeft 1 j).testBit i = true ↔ i = j := by
 have h : Nat.shiftLeft 1 j = 2 ^ j := Nat.one_shiftLeft j
 rw [h, Nat.testBit_two_pow]
 simp only [decide_eq_true_eq]
 exact eq_comm
theorem ak7 {x y i : Nat} (h : bft x y = true) (hx : x.testBit i = true) : y.testBit i = true := by
 have h : x &&& y = x := zW h
 rw [← h, Nat.testBit_and] at hx
 simp only [zU] at hx
 exact hx.2
theorem amm : ∀ (es : List Edge) (B : Nat) (s i : Nat), Nat.testBit (a0o es B s) i = true → Nat.testBit s i = true ∨ ∃ e ∈ es, Region.binds .any e = true ∧ (i = e.on ∨ (fld B e.on).testBit i = true)
 | [], _, _, _, h => .inl h
 | e :: es, B, s, i, h => by
   simp only [a0o] at h
   rcases amm es B _ i h with h | ⟨e', h1, h2, h3⟩
   ·rw [ac] at h
    split at h
    ·rename_i hb
     have h : ((s ||| Nat.shiftLeft 1 e.on) ||| fld B e.on).testBit i = true := h
     rw [Nat.testBit_or, Nat.testBit_or] at h
     simp only [Bool.or_eq_true] at h
     rcases h with (h | h) | h
     ·exact .inl h
     ·exact .inr ⟨e, by simp, hb, .inl ((agl _ _).1 h)⟩
     ·exact .inr ⟨e, by simp, hb, .inr h⟩
    ·exact .inl h
   ·exact .inr ⟨e', by simp [h1], h2, h3⟩
theorem asc {L : Nat → Bool} (hc : im ops L) : ∀ (l : List Oper) (j B : Nat), ops.toList.drop j = l →
  (∀ x i, (fld B x).testBit i = true → L x = true → L i = true) → ∀ x i, (fld (blq l j B) x).testBit i = true → L x = true → L i = true
 | [], _, _, _, h => h
 | o :: l, j, B, hl, h => by
   have ho : ops[j]? = some o := by
    have := congrArg (·[0]?) hl
    simpa using this
   refine asc hc l _ _ ?_ ?_
   ·have := congrArg List.tail hl
    simpa using this
   ·intro x i hi hL
    rcases (uo _ _ _ _ _).1 hi with hi | ⟨rfl, _, hi⟩
    ·exact h x i hi hL
    ·rcases amm _ _ _ _ hi with h0 | ⟨e, h1, h2, h3⟩
     ·simp at h0
     ·have hle := hc _ o ho hL e (by simpa using h1) h2
      rcases h3 with h3 | h3
      ·rw [h3]; exact hle
      ·exact h _ i h3 hle
theorem d7 {L : Nat → Bool} (hc : im ops L) {i j : Nat} (h : db ops i j = true) (hj : L j = true) : L i = true := by
 unfold db dh ah9 at h
 rw [blf] at h
 exact asc hc ops.toList 0 0 rfl (by intro x i h; rw [aoo] at h; simp at h) j i h hj
theorem ab3 {p : Nat → Bool} : ∀ n, a8o p n = true ↔ ∀ i, i < n → p i = true
 | 0 => ⟨fun _ i h => by omega, fun _ => rfl⟩
 | n + 1 => by
   simp only [a8o, ac]
   constructor
   ·intro h i hi
    split at h
    ·rename_i hp
     rcases Nat.lt_or_ge i n with h1 | h1
     ·exact (ab3 n).1 h i h1
     ·have : i = n := by omega
      rw [this]; exact hp
    ·cases h
   ·intro h
    rw [if_pos (h n (by omega))]
    exact (ab3 n).2 fun i hi => h i (by omega)
theorem aab (ops : Array Oper) : ae2 ops = ops.size := by unfold ae2; rw [aq]; simp
theorem aby {t : Nat} : ∀ {l : List Operand}, .tmp t ∈ l → t ∈ afe l
 | x :: l, h => by
   rcases List.mem_cons.1 h with h | h
   ·subst h; simp [afe]
   ·have := aby h
    cases x <;> simp [afe, this]
theorem aex {i j : Nat} (h : Nat.blt i j = true) : i < j := zE h
theorem y9 {i j : Nat} (h : i < j) : Nat.blt i j = true := Nat.ble_eq_true_of_le h
theorem bc_imp {x y : Bool} : bc x y true = true ↔ (x = true → y = true) := by cases x <;> cases y <;> simp [ac]
structure Drawn (pm : PM) (ops : Array Oper) : Prop where
 edge : ∀ j o, ops[j]? = some o → ∀ e ∈ o.after, Region.binds .any e = true → e.on < j
 tmp : ∀ i j oi oj d, i ≠ j → ops[i]? = some oi → ops[j]? = some oj → oi.dst = some d → d ∈ px ops.toList oj → (i < j → db ops i j = true) ∧ (j < i → db ops j i = true)
 eff : ∀ i j oi oj, i < j → ops[i]? = some oi → ops[j]? = some oj → cls pm oi.op = .ef → cls pm oj.op = .ef → db ops i j = true
theorem acj {j : Nat} : ∀ {l : List Edge}, aci j l = true → ∀ e ∈ l, Region.binds .any e = true → e.on < j
 | e :: l, h, x, hx, hb => by
   simp only [aci] at h
   obtain ⟨h1, h2⟩ := bc_and.1 h
   rcases List.mem_cons.1 hx with e' | e'
   ·subst e'; exact aex (bc_imp.1 h1 hb)
   ·exact acj h2 x e' hb
theorem af4 {Wm b : Nat} : ∀ {l : List Nat}, azn Wm b l = true → ∀ t ∈ l, bft (fld Wm t) b = true
 | t :: l, h, x, hx => by
   obtain ⟨h1, h2⟩ := bc_and.1 h
   rcases List.mem_cons.1 hx with e | e
   ·rw [e]; exact h1
   ·exact af4 h2 x e
theorem ah4 {j : Nat} (hj : j < 256) : ∀ (l : List Nat) (Rm t i : Nat), (fld Rm t).testBit i = true ∨ (i = j ∧ t ∈ l) → (fld (blm j l Rm) t).testBit i = true
 | [], _, _, _, h => by
   rcases h with h | ⟨_, h⟩
   ·exact h
   ·cases h
 | u :: l, Rm, t, i, h => by
   refine ah4 hj l _ t i ?_
   rcases h with h | ⟨h1, h2⟩
   ·exact .inl ((uo _ _ _ _ _).2 (.inl h))
   ·rcases List.mem_cons.1 h2 with e | e
    ·exact .inl ((uo _ _ _ _ _).2 (.inr ⟨e, by omega, (agl _ _).2 h1⟩))
    ·exact .inr ⟨h1, e⟩
theorem ar5 {j : Nat} (hj : j < 256) {Wm t i : Nat} {dst : Option Nat} (h : (fld Wm t).testBit i = true ∨ (i = j ∧ dst = some t)) : (fld (bn0 Wm j dst) t).testBit i = true := by
 cases dst with
 | none =>
   rcases h with h | ⟨_, h⟩
   ·exact h
   ·cases h
 | some d =>
   rcases h with h | ⟨h1, h2⟩
   ·exact (uo _ _ _ _ _).2 (.inl h)
   ·injection h2 with h2
    exact (uo _ _ _ _ _).2 (.inr ⟨h2.symm, by omega, (agl _ _).2 h1⟩)
theorem air (hn : ops.size ≤ 256) : ∀ (l : List Oper) (j Wm Rm Em : Nat), ops.toList.drop j = l → a0l pm ops.toList (ah9 ops) l j Wm Rm Em = true →
  (∀ i oi t, i < j → ops[i]? = some oi → oi.dst = some t → (fld Wm t).testBit i = true) → (∀ i oi t, i < j → ops[i]? = some oi → t ∈ px ops.toList oi → (fld Rm t).testBit i = true) →
  (∀ i oi, i < j → ops[i]? = some oi → cls pm oi.op = .ef → Em.testBit i = true) →
  ∀ k o, j ≤ k → ops[k]? = some o → aci k o.after.toList = true ∧ (∀ i oi t, i < k → ops[i]? = some oi → oi.dst = some t → t ∈ px ops.toList o → db ops i k = true) ∧
   (∀ i oi t, i < k → ops[i]? = some oi → o.dst = some t → t ∈ px ops.toList oi → db ops i k = true) ∧ (∀ i oi, i < k → ops[i]? = some oi → cls pm oi.op = .ef → cls pm o.op = .ef → db ops i k = true)
 | [], j, _, _, _, hl, _, _, _, _, k, o, hjk, hk => by
   have h1 := (zI.1 hk).1
   have := congrArg List.length hl
   simp at this
   omega
 | o' :: l, j, Wm, Rm, Em, hl, h, hW, hR, hE, k, o, hjk, hk => by
   have ho : ops[j]? = some o' := by
    have := congrArg (·[0]?) hl
    simpa using this
   have hj : j < ops.size := (zI.1 ho).1
   have hl' : ops.toList.drop (j + 1) = l := by
    have := congrArg List.tail hl
    simpa using this
   simp only [a0l] at h
   obtain ⟨k1, h⟩ := bc_and.1 h
   obtain ⟨k2, h⟩ := bc_and.1 h
   obtain ⟨k3, h⟩ := bc_and.1 h
   obtain ⟨k4, h⟩ := bc_and.1 h
   have key : ∀ i, (fld (ah9 ops) j).testBit i = true → db ops i j = true := by
    intro i hi; unfold db dh; rw [blf]; exact hi
   rcases Nat.eq_or_lt_of_le hjk with e | e
   ·subst e
    rw [ho] at hk; cases hk
    refine ⟨k1, ?_, ?_, ?_⟩
    ·intro i oi t hi hoi hd ht
     exact key i (ak7 (af4 k2 t ht) (hW i oi t hi hoi hd))
    ·intro i oi t hi hoi hd ht
     rw [hd] at k3
     exact key i (ak7 k3 (hR i oi t hi hoi ht))
    ·intro i oi hi hoi h1 h2
     rw [h2] at k4
     exact key i (ak7 k4 (hE i oi hi hoi h1))
   ·refine air hn l (j + 1) _ _ _ hl' h ?_ ?_ ?_ k o (by omega) hk
    ·intro i oi t hi hoi hd
     rcases Nat.lt_or_ge i j with q | q
     ·exact ar5 (by omega) (.inl (hW i oi t q hoi hd))
     ·have : i = j := by omega
      subst this
      rw [ho] at hoi; cases hoi
      exact ar5 (by omega) (.inr ⟨rfl, hd⟩)
    ·intro i oi t hi hoi ht
     rcases Nat.lt_or_ge i j with q | q
     ·exact ah4 (by omega) _ _ _ _ (.inl (hR i oi t q hoi ht))
     ·have : i = j := by omega
      subst this
      rw [ho] at hoi; cases hoi
      exact ah4 (by omega) _ _ _ _ (.inr ⟨rfl, ht⟩)
    ·intro i oi hi hoi hc
     rw [ac]
     have mono : Em.testBit i = true → (Nat.lor Em (Nat.shiftLeft 1 j)).testBit i = true := by
      intro q
      have : (Em ||| Nat.shiftLeft 1 j).testBit i = true := by rw [Nat.testBit_or, q]; rfl
      exact this
     rcases Nat.lt_or_ge i j with q | q
     ·split
      ·exact mono (hE i oi q hoi hc)
      ·exact hE i oi q hoi hc
     ·have : i = j := by omega
      subst this
      rw [ho] at hoi; cases hoi
      rw [hc, if_pos (show bbc CL.ef = true from rfl)]
      have : (Em ||| Nat.shiftLeft 1 i).testBit i = true := by rw [Nat.testBit_or, (agl i i).2 rfl, Bool.or_true]
      exact this
theorem xk (h : abg pm ops = true) : Drawn pm ops := by
 unfold abg at h
 obtain ⟨h1, h2⟩ := bc_and.1 h
 rw [aab] at h1
 have hn := zE h1
 have key := air hn ops.toList 0 0 0 0 rfl h2 (fun i _ _ h => by omega) (fun i _ _ h => by omega) (fun i _ h => by omega)
 refine ⟨fun j o ho e he hb => acj (key j o (by omega) ho).1 e (by simpa using he) hb, ?_, ?_⟩
 ·intro i j oi oj d hne hi hj hd hl
  exact ⟨fun q => (key j oj (by omega) hj).2.1 i oi d q hi hd hl, fun q => (key i oi (by omega) hi).2.2.1 j oj d q hj hd hl⟩
 ·intro i j oi oj hlt hi hj e1 e2
  exact (key j oj (by omega) hj).2.2.2 i oi hlt hi e1 e2
theorem ah6 {p : Nat → Bool} : ∀ l, ar8 p l = true ↔ ∀ i ∈ l, p i = true
 | [] => ⟨fun _ i h => (by cases h), fun _ => rfl⟩
 | x :: l => by
   simp only [ar8]
   rw [bc_and, ah6 l]
   simp
theorem aiy : ∀ (l : List Oper) (j : Nat), ops.toList.drop j = l → ∀ x o, j ≤ x → ops[x]? = some o → cls pm o.op = .ef → x ∈ abh pm l j
 | [], j, hl, x, o, hx, ho, _ => by
   have h1 := (zI.1 ho).1
   have := congrArg List.length hl
   simp at this
   omega
 | o' :: l, j, hl, x, o, hx, ho, hc => by
   have ho' : ops[j]? = some o' := by
    have := congrArg (·[0]?) hl
    simpa using this
   have hl' : ops.toList.drop (j + 1) = l := by
    have := congrArg List.tail hl
    simpa using this
   simp only [abh, ac]
   rcases Nat.eq_or_lt_of_le hx with e | e
   ·subst e
    rw [ho'] at ho; cases ho
    rw [hc, if_pos (show bbc CL.ef = true from rfl)]; simp
   ·have := aiy l (j + 1) hl' x o (by omega) ho hc
    split
    ·exact zS _ this
    ·exact this
theorem aeh : ∀ (l : List Oper) (j : Nat), ops.toList.drop j = l → ∀ x ∈ abh pm l j, ∃ o, ops[x]? = some o ∧ cls pm o.op = .ef
 | [], _, _, x, h => by cases h
 | o' :: l, j, hl, x, h => by
   have ho' : ops[j]? = some o' := by
    have := congrArg (·[0]?) hl
    simpa using this
   have hl' : ops.toList.drop (j + 1) = l := by
    have := congrArg List.tail hl
    simpa using this
   simp only [abh, ac] at h
   split at h
   ·rename_i hc
    rcases List.mem_cons.1 h with e | e
    ·subst e
     refine ⟨o', ho', ?_⟩
     cases hcl : cls pm o'.op <;> rw [hcl] at hc <;> first | rfl | cases hc
    ·exact aeh l (j + 1) hl' x e
   ·exact aeh l (j + 1) hl' x h
def un (L : Nat → Bool) : Nat → Nat
 | 0 => 0
 | n + 1 => un L n + bif L n then 0 else 1
theorem apy {L : Nat → Bool} : ∀ n, un L n = 0 → ∀ i, i < n → L i = true
 | n + 1, h, i, hi => by
   simp only [un] at h
   rcases Nat.lt_or_ge i n with h1 | h1
   ·exact apy n (by omega) i h1
   ·have : i = n := by omega
    subst this
    cases hL : L i with
    | true => rfl
    | false => rw [hL] at h; simp at h
theorem bfz {L : Nat → Bool} : ∀ n, (∀ i, i < n → L i = true) → un L n = 0
 | 0, _ => rfl
 | n + 1, h => by simp only [un, bfz n fun i hi => h i (by omega), h n (by omega), cond_true]
theorem av0 {L L' : Nat → Bool} : ∀ n, (∀ i, i < n → L i = L' i) → un L n = un L' n
 | 0, _ => rfl
 | n + 1, h => by simp only [un, av0 n fun i hi => h i (by omega), h n (by omega)]
def upL (L : Nat → Bool) (j : Nat) : Nat → Bool := fun i => if i = j then true else L i
theorem jt (L : Nat → Bool) (j : Nat) : upL L j j = true := by simp [upL]
theorem bu (L : Nat → Bool) {i j : Nat} (h : i ≠ j) : upL L j i = L i := by simp [upL, h]
theorem bf0 {L : Nat → Bool} {j : Nat} (hj : L j = false) : ∀ n, j < n → un L n = un (upL L j) n + 1
 | n + 1, h => by
   simp only [un]
   rcases Nat.lt_or_ge j n with h1 | h1
   ·rw [bf0 hj n h1, bu L (by omega)]; omega
   ·have : j = n := by omega
    subst this
    rw [jt, hj, av0 (L' := L) j (fun i hi => bu L (by omega))]
    simp
def j0 (listed : Array Bool) : Nat → Bool := fun i => listed.getD i false
theorem anb {listed : Array Bool} {j : Nat} (h : j < listed.size) : j0 (listed.setIfInBounds j true) = upL (j0 listed) j := by
 funext i
 simp only [j0, upL, Array.getD_eq_getD_getElem?, Array.getElem?_setIfInBounds]
 by_cases e : i = j
 ·subst e; simp [h]
 ·rw [if_neg (Ne.symm e), if_neg e]
theorem akt {listed : Array Bool} (hs : listed.size = ops.size) {j : Nat} (h : j ∈ Region.ready .any ops listed) :
  j0 listed j = false ∧ ∃ o, ops[j]? = some o ∧ ∀ e ∈ o.after, Region.binds .any e = true → j0 listed e.on = true := by
 obtain ⟨h1, o, ho, h2⟩ := mem_ready.1 h
 have hj := (zI.1 ho).1
 refine ⟨?_, o, ho, h2⟩
 unfold j0
 rw [Array.getD_eq_getD_getElem?] at h1 ⊢
 rw [Array.getElem?_eq_getElem (by omega)] at h1 ⊢
 exact h1
theorem anr (hd : Drawn pm ops) {listed : Array Bool} (hs : listed.size = ops.size) (h : Region.ready .any ops listed = []) : ∀ j, j < ops.size → j0 listed j = true := by
 intro j
 induction j using Nat.strongRecOn with
 | _ j ih =>
   intro hj
   cases hL : j0 listed j with
   | true => rfl
   | false =>
     exfalso
     have : j ∈ Region.ready .any ops listed := by
      refine mem_ready.2 ⟨?_, ops[j], Array.getElem?_eq_getElem hj, fun e he hb => ?_⟩
      ·unfold j0 at hL
       rw [Array.getD_eq_getD_getElem?] at hL ⊢
       rw [Array.getElem?_eq_getElem (by omega)] at hL ⊢
       exact hL
      ·have hlt := hd.edge j ops[j] (Array.getElem?_eq_getElem hj) e he hb
       exact ih e.on hlt (by omega)
     rw [h] at this
     cases this
end
end Go.Ev
set_option linter.all false
namespace Go.Ev
variable [Gv]
def PF.i : PF → Nat | .mk i _ _ => i
def PF.k : PF → K | .mk _ k _ => k
def PF.o : PF → AObj | .mk _ _ o => o
structure Held (N : Nat) (ρ : Env) (a : W) (w : World) (k : K) (o : AObj) : Prop where
 ex : ∃ c, ρ k = some c ∧ N ≤ c ∧ c < w.heap.size ∧ ORel ρ o (w.heap[c]?) ∧ (∀ l, aa l a.h ≠ .none → ρ l ≠ some c) ∧ (∀ arr t fz, w.heap[c]? = some (.cells arr t fz) → arr.size = ρ.sz k) ∧ bg o = none ∧ ∀ l, bg (aa l a.h) ≠ none → ¬ ρ.ft l c
omit [Gv] in
theorem at9 {o : AObj} (h : bg o ≠ none) : o.isRo = false := by
 cases o with
 | gob g => cases g <;> first | rfl | exact absurd rfl h
 | _ => first | rfl | exact absurd rfl h
section
variable {N : Nat} {ρ ρ' ρ0 : Env} {a a' a0 : W} {w w' w0 : World} {k l : K} {o p : AObj}
theorem Held.adv (h : Held N ρ a w k o) (e : Adv ρ a w ρ' a' w') : Held N ρ' a' w' k o := by
 obtain ⟨c, h1, h2, h3, h4, h5, h6, h7, h8⟩ := h.ex
 have hn : ¬ Own ρ a c := fun ⟨l, q1, _, q3⟩ => by
  rcases q3 with q3 | ⟨q3, q4⟩
  ·exact h5 l q1 q3
  ·exact h8 l q3 q4
 have hx := e.frame c h3 hn
 refine ⟨c, (e.le _ _ h1).1, h2, Nat.lt_of_lt_of_le h3 e.size, by rw [hx]; exact h4.mono e.le, ?_, ?_, h7, ?_⟩
 ·intro l hl hc
  rcases e.keep l c hl hc with ⟨m, q1, q2⟩ | q
  ·exact h5 m q1 q2
  ·omega
 ·intro arr t fz hh
  rw [hx] at hh
  rw [(e.le _ _ h1).2]
  exact h6 arr t fz hh
 ·intro l hl hf
  rcases e.own c ⟨l, bz hl, at9 hl, .inr ⟨hl, hf⟩⟩ with q | q
  ·exact hn q
  ·omega
theorem Held.wset (h : Held N ρ a w k o) (e : ρ l ≠ ρ k) (hp : bg p = none) : Held N ρ (wset l p a) w k o := by
 obtain ⟨c, h1, h2, h3, h4, h5, h6, h7, h8⟩ := h.ex
 refine ⟨c, h1, h2, h3, h4, ?_, h6, h7, fun m hm => ?_⟩
 rotate_left
 ·rw [ev] at hm
  simp only [W.h_mk] at hm
  by_cases x : m = l
  ·subst x; rw [ag, hp] at hm; exact absurd rfl hm
  ·rw [au x] at hm; exact h8 m hm
 intro m hm hc
 rw [ev] at hm
 simp only [W.h_mk] at hm
 by_cases x : m = l
 ·subst x; rw [h1] at e; exact e hc
 ·rw [au x] at hm; exact h5 m hm hc
theorem Held.lho (h : Held N ρ a w k o) : bg o = none := by obtain ⟨_, _, _, _, _, _, _, q, _⟩ := h.ex; exact q
theorem ah5 (h : Adv ρ0 a0 w0 ρ a w) (hh : Held w0.heap.size ρ a w k o) : Adv ρ0 a0 w0 ρ (wset k o a) w := by
 obtain ⟨c, h1, h2, h3, h4, h5, h6, h7, h8⟩ := hh.ex
 clear hh
 have hr := h.rel
 rw [ev]
 have old : ∀ l, l ≠ k → aa l (ce k o a.h) = aa l a.h := fun l hl => au hl o a.h
 have lh1 : ∀ l, bg (aa l (ce k o a.h)) ≠ none → l ≠ k ∧ bg (aa l a.h) ≠ none := by
  intro l hl
  have l1 : l ≠ k := by rintro rfl; rw [ag, h7] at hl; exact hl rfl
  rw [old l l1] at hl
  exact ⟨l1, hl⟩
 refine ⟨⟨?_, ?_, ?_, ?_⟩, h.le, h.rng, h.nx, h.size, ?_, ?_, h.frame, ?_, h.os, h.tape, h.output⟩
 ·intro x y hx hy e
  simp only [W.h_mk] at hx hy
  by_cases x1 : x = k
  ·by_cases y1 : y = k
   ·left; rw [x1, y1]
   ·rw [old y y1] at hy; subst x1; rw [h1] at e; exact absurd e.symm (h5 y hy)
  ·rw [old x x1] at hx
   by_cases y1 : y = k
   ·subst y1; rw [h1] at e; exact absurd e (h5 x hx)
   ·rw [old y y1] at hy; have := hr.inj x y hx hy e; simp only [W.h_mk]; rw [old x x1, old y y1]; exact this
 ·intro x hx
  simp only [W.h_mk] at hx ⊢
  by_cases x1 : x = k
  ·subst x1; rw [ag]; exact ⟨c, h1, h4⟩
  ·rw [old x x1] at hx ⊢; exact hr.dom x hx
 ·intro x d arr t fz hx hd hh
  simp only [W.h_mk] at hx
  by_cases x1 : x = k
  ·subst x1; rw [h1] at hd; injection hd with hd; subst hd; exact h6 arr t fz hh
  ·rw [old x x1] at hx; exact hr.len x d arr t fz hx hd hh
 ·intro x kd g hx
  simp only [W.h_mk] at hx
  obtain ⟨x1, x2⟩ := lh1 x (td hx)
  rw [old x x1] at hx
  have q := hr.gho x kd g hx
  refine q.step rfl rfl (zY _) (fun _ _ => rfl) (fun l hl hlk d hd => ?_) (fun l hl => q.dis l (lh1 l hl).2)
  simp only [W.h_mk] at hl
  by_cases l1 : l = k
  ·subst l1; rw [h1] at hd; injection hd with hd; subst hd; exact h8 x x2
  ·rw [old l l1] at hl; exact q.sep l hl hlk d hd
 ·rintro d ⟨x, hx, hro, hd⟩
  simp only [W.h_mk] at hx hro hd
  by_cases x1 : x = k
  ·subst x1
   rcases hd with hd | ⟨hd, _⟩
   ·rw [h1] at hd; injection hd with hd; right; omega
   ·exact absurd rfl (lh1 x hd).1
  ·rw [old x x1] at hx hro hd; exact h.own d ⟨x, hx, hro, hd⟩
 ·intro x d hx hd
  simp only [W.h_mk] at hx
  by_cases x1 : x = k
  ·subst x1; rw [h1] at hd; injection hd with hd; right; omega
  ·rw [old x x1] at hx; exact h.keep x d hx hd
 ·intro x hx hl
  have q := h.fts x hx hl
  refine ⟨q.1, ?_⟩
  simp only [W.h_mk]
  by_cases x1 : x = k
  ·subst x1; rw [ag]; exact h7
  ·rw [old x x1]; exact q.2
theorem ar6 (m : Nat) : ∀ (l : List PF), (∀ p ∈ l, tb m p.i = true → Held w0.heap.size ρ a w p.k p.o) → l.Pairwise (fun p q => tb m p.i = true → tb m q.i = true → ρ p.k ≠ ρ q.k) → Adv ρ0 a0 w0 ρ a w →
  Adv ρ0 a0 w0 ρ (dz m l a) w ∧ ∀ k o, Held w0.heap.size ρ a w k o → (∀ p ∈ l, tb m p.i = true → ρ p.k ≠ ρ k) → Held w0.heap.size ρ (dz m l a) w k o
 | [], _, _, h => ⟨h, fun _ _ h _ => h⟩
 | .mk i k o :: l, hp, hd, h => by
   obtain ⟨h1, h2⟩ := ar6 m l (fun p hl => hp p (zS _ hl)) (List.pairwise_cons.1 hd).2 h
   simp only [dz]
   rw [ac]
   split
   ·rename_i hb
    have hk : Held w0.heap.size ρ (dz m l a) w k o := h2 k o (hp (.mk i k o) (by simp) hb) fun p hl hb' => ((List.pairwise_cons.1 hd).1 p hl hb hb').symm
    refine ⟨ah5 h1 hk, fun k' o' h' hne => ?_⟩
    exact (h2 k' o' h' fun p hl hb => hne p (zS _ hl) hb).wset (hne (.mk i k o) (by simp) hb) hk.lho
   ·exact ⟨h1, fun k' o' h' hne => h2 k' o' h' fun p hl hb => hne p (zS _ hl) hb⟩
theorem a8p : ∀ (l : List PF), (∀ p ∈ l, Held w0.heap.size ρ a w p.k p.o) → l.Pairwise (fun p q => ρ p.k ≠ ρ q.k) → Adv ρ0 a0 w0 ρ a w →
  Adv ρ0 a0 w0 ρ (aiq l a) w ∧ ∀ k o, Held w0.heap.size ρ a w k o → (∀ p ∈ l, ρ p.k ≠ ρ k) → Held w0.heap.size ρ (aiq l a) w k o
 | [], _, _, h => ⟨h, fun _ _ h _ => h⟩
 | .mk i k o :: l, hp, hd, h => by
   obtain ⟨h1, h2⟩ := a8p l (fun p hl => hp p (zS _ hl)) (List.pairwise_cons.1 hd).2 h
   simp only [aiq]
   have hk : Held w0.heap.size ρ (aiq l a) w k o := h2 k o (hp (.mk i k o) (by simp)) fun p hl => ((List.pairwise_cons.1 hd).1 p hl).symm
   refine ⟨ah5 h1 hk, fun k' o' h' hne => ?_⟩
   exact (h2 k' o' h' fun p hl => hne p (zS _ hl)).wset (hne (.mk i k o) (by simp)) hk.lho
theorem qn (k : K) (o : AObj) (a : W) : (wset k o a).nx = a.nx := by rw [ev]; rfl
theorem xw (m : Nat) : ∀ (l : List PF) (a : W), (dz m l a).nx = a.nx
 | [], _ => rfl
 | .mk i k o :: l, a => by
   simp only [dz]
   rw [ac]
   split
   ·rw [qn, xw m l a]
   ·exact xw m l a
theorem bd9 : ∀ (l : List PF) (a : W), (aiq l a).nx = a.nx
 | [], _ => rfl
 | .mk i k o :: l, a => by simp only [aiq]; rw [qn, bd9 l a]
theorem WRel.rekeyed {h : H4} {nx nx' : K} (e : WRel ρ (.mk h nx) w) : WRel ρ (.mk h nx') w := ⟨e.inj, e.dom, e.len, fun k kd g hk => let q := e.gho k kd g hk; ⟨q.root, q.rel, q.lt, q.sep, q.dis⟩⟩
theorem Adv.forget {a2 : W} (h : Adv ρ0 a0 w0 ρ a2 w) (hk : aa k a.h = .none) (hs : ∀ l, l ≠ k → aa l a.h = aa l a2.h) (hn : a.nx = a2.nx) : Adv ρ0 a0 w0 ρ a w := by
 have at_ : ∀ l, aa l a.h ≠ .none → aa l a2.h = aa l a.h := by
  intro l hl
  refine (hs l ?_).symm
  rintro rfl; exact hl hk
 have ne : ∀ l, aa l a.h ≠ .none → aa l a2.h ≠ .none := fun l hl => by rw [at_ l hl]; exact hl
 refine ⟨⟨fun x y hx hy e => by have := h.rel.inj x y (ne x hx) (ne y hy) e; rw [at_ x hx, at_ y hy] at this; exact this, fun x hx => ?_, fun x c arr t fz hx hc hh => h.rel.len x c arr t fz (ne x hx) hc hh, fun x kd g hx => ?_⟩, h.le, fun x => by rw [hn]; exact h.rng x, by rw [hn]; exact h.nx, h.size, ?_, fun x c hx hc => h.keep x c (ne x hx) hc, h.frame, fun x hx hl => ?_, h.os, h.tape, h.output⟩
 ·obtain ⟨c, h1, h2⟩ := h.rel.dom x (ne x hx); exact ⟨c, h1, by rw [at_ x hx] at h2; exact h2⟩
 ·have hx' : aa x a.h ≠ .none := bz (by rw [hx]; simp)
  have q := h.rel.gho x kd g (by rw [at_ x hx']; exact hx)
  exact q.step rfl rfl (zY _) (fun _ _ => rfl) (fun l hl => q.sep l (ne l hl)) (fun l hl => q.dis l (by rw [at_ l (bz hl)]; exact hl))
 ·rintro c ⟨x, hx, hr, hc⟩; exact h.own c ⟨x, ne x hx, by rw [at_ x hx]; exact hr, by rw [at_ x hx]; exact hc⟩
 ·have q := h.fts x hx hl
  refine ⟨q.1, ?_⟩
  by_cases e : aa x a.h = .none
  ·rw [e]; rfl
  ·rw [← at_ x e]; exact q.2
theorem Held.forget {a2 : W} (h : Held N ρ a2 w l o) (hk : aa k a.h = .none) (hs : ∀ l, l ≠ k → aa l a.h = aa l a2.h) : Held N ρ a w l o := by
 obtain ⟨c, h1, h2, h3, h4, h5, h6, h7, h8⟩ := h.ex
 refine ⟨c, h1, h2, h3, h4, fun m hm => h5 m ?_, h6, h7, fun m hm => h8 m ?_⟩
 ·rw [← hs m (by rintro rfl; exact hm hk)]
  exact hm
 ·rw [← hs m (by rintro rfl; exact bz hm hk)]
  exact hm
theorem Held.of_rel {a2 : W} {c : Nat} (hr : WRel ρ a2 w) (hk2 : aa k a2.h = o) (ho : o ≠ .none) (hlo : bg o = none) (hro : o.isRo = false) (hc : ρ k = some c) (hN : N ≤ c) (hk : aa k a.h = .none) (hs : ∀ l, l ≠ k → aa l a.h = aa l a2.h) : Held N ρ a w k o := by
 obtain ⟨c', h1, h2⟩ := hr.dom k (by rw [hk2]; exact ho)
 rw [hc] at h1; cases h1
 rw [hk2] at h2
 obtain ⟨y, hy⟩ := h2.some ho
 refine ⟨c, hc, hN, (zI.1 hy).1, h2, fun m hm e => ?_, fun arr t fz hh => hr.len k c arr t fz (by rw [hk2]; exact ho) hc hh, hlo, fun m hm hf => ?_⟩
 rotate_left
 ·have hne : m ≠ k := by rintro rfl; exact bz hm hk
  have hm2 : bg (aa m a2.h) ≠ none := by rw [← hs m hne]; exact hm
  obtain ⟨⟨kd, g⟩, hkg⟩ := Option.ne_none_iff_exists'.1 hm2
  exact (hr.gho m kd g hkg).sep k (by rw [hk2]; exact ho) hne.symm c hc hf
 have hne : m ≠ k := by rintro rfl; exact hm hk
 exact hne (hr.inj1 (by rw [← hs m hne]; exact hm) (by rw [hk2]; exact ho) (.inr (by rw [hk2]; exact hro)) (by rw [e, hc]))
theorem Held.conv {p : AObj} (h : Held N ρ a w k o) (hc : ∀ x, ORel ρ o x → ORel ρ p x) (hp : bg p = none) : Held N ρ a w k p := by
 obtain ⟨c, h1, h2, h3, h4, h5, h6, _, h8⟩ := h.ex
 exact ⟨c, h1, h2, h3, hc _ h4, h5, h6, hp, h8⟩
theorem a6m {h : H4} {nx key : K} (hA : Adv ρ0 a0 w0 ρ (.mk h nx) w) (hf : Adv ρ (.mk h key) w ρ' (.mk (ce key o h) key.succ) w') (hm : key.isMax = false) (hk : ρ key = none)
  (h1 : a0.nx.num ≤ key.num) (h2 : key.num < nx.num) (ho : o ≠ .none) (hlo : bg o = none) (hro : o.isRo = false) :
  Adv ρ0 a0 w0 ρ' (.mk h nx) w' ∧ Held w0.heap.size ρ' (.mk h nx) w' key o ∧ (∀ k, k ≠ key → ρ' k = ρ k) ∧ (∃ c, ρ' key = some c ∧ w.heap.size ≤ c ∧ c < w'.heap.size) ∧ ∀ k p, Held N ρ (.mk h nx) w k p → Held N ρ' (.mk h nx) w' k p ∧ ρ' k ≠ ρ' key := by
 have hsucc : key.succ.num = key.num + 1 := K.succ_num hm
 have same : ∀ k, k ≠ key → ρ' k = ρ k := by
  intro k hne
  rcases hf.rng k with e | e
  ·exact e
  ·simp only [W.nx_mk] at e
   exact absurd (K.num_inj (by omega)) hne
 have hnone : aa key h = .none := by
  by_cases e : aa key h = .none
  ·exact e
  ·obtain ⟨c, hc, _⟩ := hA.rel.dom key e; rw [hk] at hc; cases hc
 have old : ∀ k, k ≠ key → aa k (ce key o h) = aa k h := fun k hne => au hne o h
 have ne : ∀ k, aa k h ≠ .none → k ≠ key := by rintro k hk' rfl; exact hk' hnone
 obtain ⟨c, hc, hor⟩ := hf.rel.dom key (by simp only [W.h_mk]; rw [ag]; exact ho)
 simp only [W.h_mk] at hor
 rw [ag] at hor
 obtain ⟨y, hy⟩ := hor.some ho
 have hlt : c < w'.heap.size := (zI.1 hy).1
 have hfresh : ∀ l, aa l h ≠ .none → ρ' l ≠ some c := by
  intro l hl he
  have hl' : aa l (ce key o h) ≠ .none := by rw [old l (ne l hl)]; exact hl
  have := hf.rel.inj1 (k := l) (l := key) (by simpa only [W.h_mk] using hl') (by simp only [W.h_mk]; rw [ag]; exact ho) (.inr (by simp only [W.h_mk]; rw [ag]; exact hro)) (by rw [he, hc])
  exact ne l hl this
 have hge : w.heap.size ≤ c := by
  rcases hf.keep key c (by simp only [W.h_mk]; rw [ag]; exact ho) hc with ⟨l, q1, q2⟩ | q
  ·exact absurd (hf.le _ _ q2).1 (hfresh l q1)
  ·exact q
 have hs0 := hA.size
 have rel : WRel ρ' (.mk h nx) w' := by
  refine ⟨?_, ?_, ?_, ?_⟩
  ·intro x y hx hy e
   simp only [W.h_mk] at hx hy
   have := hf.rel.inj x y (by simp only [W.h_mk]; rw [old x (ne x hx)]; exact hx) (by simp only [W.h_mk]; rw [old y (ne y hy)]; exact hy) e
   simp only [W.h_mk] at this
   rw [old x (ne x hx), old y (ne y hy)] at this; exact this
  ·intro x hx
   simp only [W.h_mk] at hx ⊢
   have := hf.rel.dom x (by simp only [W.h_mk]; rw [old x (ne x hx)]; exact hx)
   simp only [W.h_mk] at this
   rw [old x (ne x hx)] at this
   exact this
  ·intro x d arr t fz hx hd hh
   simp only [W.h_mk] at hx
   exact hf.rel.len x d arr t fz (by simp only [W.h_mk]; rw [old x (ne x hx)]; exact hx) hd hh
  ·intro x kd g hx
   simp only [W.h_mk] at hx
   have q := hf.rel.gho x kd g (by simp only [W.h_mk]; rw [old x (ne x (bz (td hx)))]; exact hx)
   exact q.step rfl rfl (zY _) (fun _ _ => rfl) (fun l hl => q.sep l (by simp only [W.h_mk] at hl ⊢; rw [old l (ne l hl)]; exact hl)) (fun l hl => q.dis l (by simp only [W.h_mk] at hl ⊢; rw [old l (ne l (bz hl))]; exact hl))
 have hghost : ∀ l, bg (aa l h) ≠ none → ¬ ρ'.ft l c := by
  intro l hl
  have hne := ne l (bz hl)
  obtain ⟨⟨kd, g⟩, hkg⟩ := Option.ne_none_iff_exists'.1 hl
  exact (hf.rel.gho l kd g (by simp only [W.h_mk]; rw [old l hne]; exact hkg)).sep key (by simp only [W.h_mk]; rw [ag]; exact ho) hne.symm c hc
 refine ⟨⟨rel, Env.le_trans hA.le hf.le, ?_, hA.nx, Nat.le_trans hA.size hf.size, ?_, ?_, ?_, ?_, hf.os.trans hA.os, hf.tape.trans hA.tape, hf.output.trans hA.output⟩, ⟨c, hc, by omega, hlt, hor, hfresh, ?_, hlo, hghost⟩, same, ⟨c, hc, hge, hlt⟩, ?_⟩
 ·intro x
  by_cases e : x = key
  ·subst e; right; simp only [W.nx_mk]; omega
  ·rw [same x e]; exact hA.rng x
 ·rintro d ⟨x, hx, hro, hd⟩
  simp only [W.h_mk] at hx hro hd
  have hxk : aa x (ce key o h) ≠ .none := by rw [old x (ne x hx)]; exact hx
  rcases hf.own d ⟨x, hxk, by simp only [W.h_mk]; rw [old x (ne x hx)]; exact hro, by simp only [W.h_mk]; rw [old x (ne x hx)]; exact hd⟩ with q | q
  ·exact hA.own d q
  ·exact .inr (Nat.le_trans hA.size q)
 ·intro x d hx hd
  simp only [W.h_mk] at hx
  rw [same x (ne x hx)] at hd
  exact hA.keep x d hx hd
 ·intro d hd hn
  rw [hf.frame d (by omega) ?_]
  ·exact hA.frame d hd hn
  ·rintro ⟨x, hx, hro, hd'⟩
   rcases hA.own d ⟨x, hx, hro, hd'⟩ with e | e
   ·exact hn e
   ·omega
 ·intro x hx hl
  have q := hA.fts x hx hl
  by_cases e : x = key
  ·subst e
   omega
  ·have q2 := hf.fts x (by simp only [W.nx_mk]; omega) q.2
   exact ⟨q2.1.trans q.1, q.2⟩
 ·intro arr t fz hh
  exact hf.rel.len key c arr t fz (by simp only [W.h_mk]; rw [ag]; exact ho) hc hh
 ·intro k p hp
  obtain ⟨d, q1, q2, q3, q4, q5, q6, q7, q8⟩ := hp.ex
  have hn : ¬ Own ρ (.mk h key) d := fun ⟨l, r1, _, r3⟩ => by
   rcases r3 with r3 | ⟨r3, r4⟩
   ·exact q5 l r1 r3
   ·exact q8 l r3 r4
  have hx := hf.frame d q3 hn
  have hle := hf.le _ _ q1
  refine ⟨⟨d, hle.1, q2, Nat.lt_of_lt_of_le q3 hf.size, by rw [hx]; exact q4.mono hf.le, ?_, ?_, q7, ?_⟩, ?_⟩
  ·intro l hl he
   simp only [W.h_mk] at hl
   rw [same l (ne l hl)] at he
   exact q5 l hl he
  ·intro arr t fz hh
   rw [hx] at hh
   rw [hle.2]
   exact q6 arr t fz hh
  ·intro l hl hfl
   simp only [W.h_mk] at hl
   have hl' : aa l (ce key o h) = aa l h := old l (ne l (bz hl))
   rcases hf.own d ⟨l, by simp only [W.h_mk]; rw [hl']; exact bz hl, by simp only [W.h_mk]; rw [hl']; exact at9 hl, .inr ⟨by simp only [W.h_mk]; rw [hl']; exact hl, hfl⟩⟩ with e | e
   ·exact hn e
   ·omega
  ·rw [hle.1, hc]
   intro e
   injection e with e
   omega
end
end Go.Ev
set_option linter.all false
namespace Go.Ev
variable [Gv]
def gb (pm : PM) (ih : Ih) (ops : Array Oper) (nt j : Nat) (o : Oper) (s s' : DS) (v : AV) (b : Bool) (ob : AObj) : Prop :=
 s'.τ = rp nt o.dst v s.τ ∧
 (match o.guard with | none => b = true | some g => l8 g ops.toList s.τ = some b) ∧
 (b = false → v = ip) ∧
 (match cls pm o.op with
  | .pu => s'.w = s.w ∧ s'.fk = s.fk ∧ s'.pend = s.pend ∧ s'.hist = s.hist ∧ s'.recs = s.recs ∧ s'.pv = s.pv ∧ (b = true → ∀ a, zOp o.op s.τ a = .val v a)
  | .rd => s'.w = s.w ∧ s'.fk = s.fk ∧ s'.pend = s.pend ∧ s'.hist = s.hist ∧ (∀ r ∈ s.recs, r ∈ s'.recs) ∧ s'.pv = s.pv ∧ (b = true → zOp o.op s.τ s.w = .val v s.w ∧ (wy pm ops j = true → .mk j o.op s.τ v ∈ s'.recs))
  | .fl => s'.w = s.w ∧ s'.hist = s.hist ∧ s'.recs = s.recs ∧ (b = false → s'.fk = s.fk ∧ s'.pend = s.pend ∧ s'.pv = s.pv) ∧
     (b = true → s'.fk = s.fk.succ ∧ (isP pm j = false → s'.pend = .mk j s.fk ob :: s.pend ∧ s'.pv = s.pv) ∧ (isP pm j = true → s'.pend = s.pend ∧ s'.pv = .mk s.fk [] ∧ ob = .map []) ∧
       s.fk.isMax = false ∧ (ob ≠ .none ∧ bg ob = none ∧ ob.isRo = false) ∧ ∀ h, zOp o.op s.τ (.mk h s.fk) = .val v (.mk (ce s.fk ob h) s.fk.succ))
  | .mu => s'.w = s.w ∧ s'.fk = s.fk ∧ s'.pend = s.pend ∧ s'.hist = s.hist ∧ s'.recs = s.recs ∧ b = true ∧ v = ip ∧ ∃ t m x y k es, o.op = .insert t m x y ∧ s.pv = .mk k es ∧
     s'.pv = .mk k (es ++ [(evX x s.τ, evX y s.τ)]) ∧ nq t = true ∧ amy t (evX x s.τ) = true ∧ evX m s.τ = .map k
  | .ef => s'.fk = s.fk ∧ s'.pend = xj (dh ops j) s.pend ∧ s'.hist = (j, s.w) :: s.hist ∧ s'.recs = s.recs ∧ s'.pv = s.pv ∧ (b = false → s'.w = dz (dh ops j) s.pend s.w) ∧
     (b = true → zOp o.op s.τ (dz (dh ops j) s.pend s.w) = .val v s'.w ∨ (∃ f vs W1, zOp o.op s.τ (dz (dh ops j) s.pend s.w) = .call f vs W1 ∧ enter ih f vs W1 = .ret v s'.w) ∨
       ∃ f vs W1 ch W2, zOp o.op s.τ (dz (dh ops j) s.pend s.w) = .call f vs W1 ∧ enter ih f vs W1 = .pan ch W2))
section
variable {pm : PM} {ih : Ih} {ops : Array Oper} {nt fn : Nat}
theorem a0t {j : Nat} {o : Oper} {s s' : DS} (h : dGo pm ih ops j o nt fn s = .ok s') (hg : match o.guard with | none => True | some g => l8 g ops.toList s.τ = some true) : ∃ v ob, gb pm ih ops nt j o s s' v true ob := by
 obtain ⟨τ, w, fk, pend, hist, recs, pv⟩ := s
 have hg' : match o.guard with | none => true = true | some g => l8 g ops.toList τ = some true := by
  cases ho : o.guard with
  | none => rfl
  | some g => rw [ho] at hg; exact hg
 unfold dGo at h
 unfold gb
 cases hc : cls pm o.op with
 | pu =>
   rw [hc] at h
   simp only [baa] at h
   split at h <;> cases h
   rename_i v a' he
   exact ⟨v, .none, rfl, hg', (fun e => Bool.noConfusion e), rfl, rfl, rfl, rfl, rfl, rfl, fun _ a => bim (bl0 hc) (ajg he) a⟩
 | rd =>
   rw [hc] at h
   simp only [bac] at h
   split at h <;> cases h
   rename_i v a' he
   have he := ajg he
   have hs := a23 (a := w) (a8y hc) τ
   rw [he] at hs
   have hs : a' = w := hs
   subst hs
   refine ⟨v, .none, rfl, hg', (fun e => Bool.noConfusion e), rfl, rfl, rfl, rfl, ?_, rfl, fun _ => ⟨he, ?_⟩⟩
   ·intro r hr
    simp only [DS.recs, ac] at hr ⊢
    split
    ·exact zS _ hr
    ·exact hr
   ·intro hm
    simp only [DS.recs, DS.τ, ac]
    rw [if_pos hm]
    simp
 | fl =>
   rw [hc] at h
   simp only [ax3] at h
   split at h <;> try (cases h; done)
   rename_i v h' nx' he
   have he := ajg he
   rcases bau (bly hc) τ with ⟨ob, g, hob, hf⟩ | hf
   ·have hx := hf (.mk (hOf w) fk)
    rw [he] at hx
    have hx : OR.val v (.mk h' nx') = bc fk.isMax (.no 1) (.val (g fk) (.mk (ce fk ob (hOf w)) fk.succ)) := hx
    rw [ac] at hx
    split at hx
    ·cases hx
    rename_i hm
    have hm : fk.isMax = false := by simpa using hm
    injection hx with h1 h2
    injection h2 with h2 h3
    subst h1; subst h2; subst h3
    have last : ∀ hh : H4, zOp o.op τ (.mk hh fk) = .val (g fk) (.mk (ce fk ob hh) fk.succ) := by
     intro hh
     rw [hf]
     show bc fk.isMax (OR.no 1) (OR.val (g fk) (.mk (ce fk ob hh) fk.succ)) = _
     rw [hm]; rfl
    rw [ac] at h
    split at h
    ·rename_i hp
     rw [ac] at h
     split at h
     ·rename_i h0
      rw [ag] at h0
      cases h
      have hob' : ob = .map [] := by
       unfold bbd at h0
       split at h0
       ·rfl
       ·cases h0
      exact ⟨g fk, ob, rfl, hg', (fun e => Bool.noConfusion e), rfl, rfl, rfl, (fun e => Bool.noConfusion e), fun _ => ⟨rfl, (fun e => by rw [hp] at e; cases e), fun _ => ⟨rfl, rfl, hob'⟩, hm, hob, last⟩⟩
     ·cases h
    ·rename_i hp
     cases h
     refine ⟨g fk, ob, rfl, hg', (fun e => Bool.noConfusion e), rfl, rfl, rfl, (fun e => Bool.noConfusion e), fun _ => ⟨rfl, fun _ => ⟨?_, rfl⟩, (fun e => absurd e hp), hm, hob, last⟩⟩
     simp only [DS.pend, DS.fk]; rw [ag]
   ·obtain ⟨c, hx⟩ := hf (.mk (hOf w) fk)
    rw [he] at hx; cases hx
 | mu =>
   rw [hc] at h
   cases pv with
   | none => cases h
   | mk k es =>
     simp only [dMu] at h
     split at h
     ·rename_i t m x y hop hgd
      rw [ac] at h
      split at h
      ·rename_i hcc
       cases h
       simp only [zU] at hcc
       obtain ⟨⟨c1, c2⟩, c3⟩ := hcc
       refine ⟨ip, .none, rfl, hg', (fun e => Bool.noConfusion e), rfl, rfl, rfl, rfl, rfl, rfl, rfl, t, m, x, y, k, es, hop, rfl, rfl, c1, c2, ?_⟩
       show evX m τ = .map k
       unfold a02 at c3
       split at c3
       ·rename_i b hb; rw [hb, (K.beq_iff _ _).1 c3]
       ·cases c3
      ·cases h
     ·cases h
 | ef =>
   rw [hc] at h
   simp only [bhd] at h
   split at h
   ·rename_i v w' he
    cases h
    exact ⟨v, .none, rfl, hg', (fun e => Bool.noConfusion e), rfl, rfl, rfl, rfl, rfl, (fun e => Bool.noConfusion e), fun _ => .inl (ajg he)⟩
   ·rename_i f vs w' he
    split at h
    ·rename_i v w'' hen
     cases h
     exact ⟨v, .none, rfl, hg', (fun e => Bool.noConfusion e), rfl, rfl, rfl, rfl, rfl, (fun e => Bool.noConfusion e), fun _ => .inr (.inl ⟨f, vs, w', aoq he, hen⟩)⟩
    ·cases h
    ·rw [ac] at h; split at h <;> cases h
   ·cases h
   ·cases h
theorem afb {j : Nat} {o : Oper} {s s' : DS} (h : sv pm ih ops j o nt fn s = .ok s') : ∃ v b ob, gb pm ih ops nt j o s s' v b ob := by
 unfold sv at h
 cases hg : o.guard with
 | none =>
   rw [hg] at h
   obtain ⟨v, ob, hf⟩ := a0t h (by rw [hg]; trivial)
   exact ⟨v, true, ob, hf⟩
 | some g =>
   rw [hg] at h
   dsimp only at h
   split at h
   ·rename_i hw
    obtain ⟨v, ob, hf⟩ := a0t h (by rw [hg]; exact hw)
    exact ⟨v, true, ob, hf⟩
   ·rename_i hw
    refine ⟨ip, false, .none, ?_⟩
    obtain ⟨τ, w, fk, pend, hist, recs, pv⟩ := s
    unfold baf at h
    unfold gb
    rw [hg]
    cases hc : cls pm o.op <;> rw [hc] at h <;> cases h
    ·exact ⟨rfl, hw, fun _ => rfl, rfl, rfl, rfl, rfl, rfl, rfl, (fun e => Bool.noConfusion e)⟩
    ·exact ⟨rfl, hw, fun _ => rfl, rfl, rfl, rfl, rfl, fun r hr => hr, rfl, (fun e => Bool.noConfusion e)⟩
    ·exact ⟨rfl, hw, fun _ => rfl, rfl, rfl, rfl, fun _ => ⟨rfl, rfl, rfl⟩, (fun e => Bool.noConfusion e)⟩
    ·exact ⟨rfl, hw, fun _ => rfl, rfl, rfl, rfl, rfl, rfl, fun _ => rfl, (fun e => Bool.noConfusion e)⟩
   ·cases h
theorem bfy : ∀ (l : List Oper) (i : Nat) (s sN : DS), ais pm ih ops nt fn l i s = .ok sN → ∃ f : Nat → DS, f i = s ∧ f (i + l.length) = sN ∧ ∀ k o, l[k]? = some o → sv pm ih ops (i + k) o nt fn (f (i + k)) = .ok (f (i + k + 1))
 | [], i, s, sN, h => by
   cases h
   exact ⟨fun _ => s, rfl, rfl, fun k o hk => by simp at hk⟩
 | o :: l, i, s, sN, h => by
   simp only [ais, a99] at h
   split at h
   ·rename_i s1 h1
    obtain ⟨f, f1, f2, f3⟩ := bfy l (i + 1) s1 sN h
    refine ⟨fun j => if j ≤ i then s else f j, by simp, ?_, ?_⟩
    ·simp only [zO]
     rw [if_neg (by omega), ← f2]
     congr 1
     omega
    ·intro k o' hk
     cases k with
     | zero =>
       simp at hk
       subst hk
       dsimp only
       rw [if_pos (by omega), if_neg (by omega), Nat.add_zero, f1]
       exact h1
     | succ k =>
       simp only [List.getElem?_cons_succ] at hk
       have := f3 k o' hk
       dsimp only
       rw [if_neg (by omega), if_neg (by omega)]
       have e : i + (k + 1) = i + 1 + k := by omega
       rw [e]
       exact this
   ·cases h
   ·cases h
theorem a76 {j : Nat} {o : Oper} {s : DS} (hg : match o.guard with | none => True | some g => l8 g ops.toList s.τ = some true) : sv pm ih ops j o nt fn s = dGo pm ih ops j o nt fn s := by
 unfold sv
 cases hgd : o.guard with
 | none => rfl
 | some g => rw [hgd] at hg; dsimp only at hg ⊢; rw [hg]
theorem ae1 {j : Nat} {o : Oper} {s s' : DS} (h : sv pm ih ops j o nt fn s = .ok s') (hc : cls pm o.op = .ef) (hg : match o.guard with | none => True | some g => l8 g ops.toList s.τ = some true) {f : FuncId} {vs : List AV} {W1 W2 : W} {ch : List PE}
  (h1 : zOp o.op s.τ (dz (dh ops j) s.pend s.w) = .call f vs W1) (h2 : enter ih f vs W1 = .pan ch W2) : False := by
 rw [a76 hg] at h
 obtain ⟨τ, w, fk, pend, hist, recs, pv⟩ := s
 unfold dGo at h
 rw [hc] at h
 have h1 : zOp o.op τ (dz (dh ops j) pend w) = .call f vs W1 := h1
 simp only [bhd] at h
 rw [bax, h1] at h
 dsimp only at h
 rw [h2] at h
 dsimp only at h
 rw [ac] at h
 split at h <;> cases h
theorem avo {j p : Nat} {o : Oper} {s s' : DS} {ch : List PE} {w2 : W} (h : sv pm ih ops j o nt fn s = .pan ch w2 p s') : p = j ∧ pm = .none ∧ gb pm ih ops nt j o s s' .top true .none ∧ cls pm o.op = .ef ∧
  ∃ f vs W1, zOp o.op s.τ (dz (dh ops j) s.pend s.w) = .call f vs W1 ∧ enter ih f vs W1 = .pan ch w2 := by
 have key : ∀ (hg : match o.guard with | none => True | some g => l8 g ops.toList s.τ = some true), dGo pm ih ops j o nt fn s = .pan ch w2 p s' → p = j ∧ pm = .none ∧ gb pm ih ops nt j o s s' .top true .none ∧ cls pm o.op = .ef ∧
   ∃ f vs W1, zOp o.op s.τ (dz (dh ops j) s.pend s.w) = .call f vs W1 ∧ enter ih f vs W1 = .pan ch w2 := by
  intro hg h
  obtain ⟨τ, w, fk, pend, hist, recs, pv⟩ := s
  have hg' : match o.guard with | none => true = true | some g => l8 g ops.toList τ = some true := by
   cases ho : o.guard with
   | none => rfl
   | some g => rw [ho] at hg; exact hg
  unfold dGo at h
  unfold gb
  cases hc : cls pm o.op with
  | pu => rw [hc] at h; simp only [baa] at h; split at h <;> cases h
  | rd => rw [hc] at h; simp only [bac] at h; split at h <;> cases h
  | fl =>
    rw [hc] at h; simp only [ax3] at h; split at h <;> try (cases h; done)
    rw [ac] at h; split at h <;> try (cases h; done)
    rw [ac] at h; split at h <;> cases h
  | mu =>
    rw [hc] at h
    cases pv with
    | none => cases h
    | mk k es =>
      simp only [dMu] at h
      split at h
      ·rw [ac] at h; split at h <;> cases h
      ·cases h
  | ef =>
    rw [hc] at h
    simp only [bhd] at h
    split at h
    ·cases h
    ·rename_i f vs w' he
     split at h
     ·cases h
     ·cases h
     ·rename_i ch' w'' hen
      rw [ac] at h
      split at h
      ·rename_i hok
       injection h with h1 h2 h3 h4
       subst h1 h2 h3 h4
       have hpm : pm = .none := by cases pm <;> first | rfl | cases hok
       exact ⟨rfl, hpm, ⟨rfl, hg', (fun e => Bool.noConfusion e), rfl, rfl, rfl, rfl, rfl, (fun e => Bool.noConfusion e), fun _ => .inr (.inr ⟨f, vs, w', ch', w'', aoq he, hen⟩)⟩, rfl, f, vs, w', aoq he, hen⟩
      ·cases h
    ·cases h
    ·cases h
 unfold sv at h
 cases hg : o.guard with
 | none => rw [hg] at h; exact key (by rw [hg]; trivial) h
 | some g =>
   rw [hg] at h
   dsimp only at h
   split at h
   ·rename_i hw; exact key (by rw [hg]; exact hw) h
   ·obtain ⟨τ, w, fk, pend, hist, recs, pv⟩ := s
    unfold baf at h
    cases hc : cls pm o.op <;> rw [hc] at h <;> cases h
   ·cases h
theorem anz {ch : List PE} {w2 : W} {p : Nat} {sP : DS} : ∀ (l : List Oper) (i : Nat) (s : DS), ais pm ih ops nt fn l i s = .pan ch w2 p sP →
  ∃ (f : Nat → DS) (k : Nat), f i = s ∧ p = i + k ∧ f (p + 1) = sP ∧ (∀ k' o, k' < k → l[k']? = some o → sv pm ih ops (i + k') o nt fn (f (i + k')) = .ok (f (i + k' + 1))) ∧ ∃ o, l[k]? = some o ∧ sv pm ih ops p o nt fn (f p) = .pan ch w2 p sP
 | [], _, _, h => by cases h
 | o :: l, i, s, h => by
   simp only [ais, a99] at h
   split at h
   ·rename_i s1 h1
    obtain ⟨f, k, f1, f2, f3, f4, o', f5, f6⟩ := anz l (i + 1) s1 h
    refine ⟨fun j => if j ≤ i then s else f j, k + 1, by simp, by omega, ?_, ?_, o', by simpa using f5, ?_⟩
    ·dsimp only; rw [if_neg (by omega)]; exact f3
    ·intro k' o'' hk hl
     cases k' with
     | zero =>
       simp at hl
       subst hl
       dsimp only
       rw [if_pos (by omega), if_neg (by omega), Nat.add_zero, f1]
       exact h1
     | succ k' =>
       simp only [List.getElem?_cons_succ] at hl
       have := f4 k' o'' (by omega) hl
       dsimp only
       rw [if_neg (by omega), if_neg (by omega)]
       have e : i + (k' + 1) = i + 1 + k' := by omega
       rw [e]
       exact this
    ·dsimp only; rw [if_neg (by omega)]; exact f6
   ·rename_i ch' w' p' s' h1
    injection h with e1 e2 e3 e4
    subst e1 e2 e3 e4
    have hp := (avo h1).1
    refine ⟨fun j => if j ≤ i then s else s', 0, by simp, by omega, ?_, fun k' o' hk => by omega, o, by simp, ?_⟩
    ·dsimp only; rw [if_neg (by omega)]
    ·dsimp only; rw [if_pos (by omega), hp]; rw [hp] at h1; exact h1
   ·cases h
theorem as9 {opsT : Array Oper} {j : Nat} {o : Oper} {s s' : DS} {v : AV} {b : Bool} {ob : AObj} (h : gb pm ih ops nt j o s s' v b ob) (hb : dh ops j = dh opsT j) (hm : wy pm opsT j = true → wy pm ops j = true)
  (hw : ∀ g, o.guard = some g → l8 g ops.toList s.τ = l8 g opsT.toList s.τ) : gb pm ih opsT nt j o s s' v b ob := by
 unfold gb at h ⊢
 rw [← hb]
 obtain ⟨h1, h2, h3, h4⟩ := h
 refine ⟨h1, ?_, h3, ?_⟩
 ·cases hg : o.guard with
  | none => rw [hg] at h2; exact h2
  | some g => rw [hg] at h2; dsimp only at h2 ⊢; rw [← hw g hg]; exact h2
 ·cases hc : cls pm o.op with
  | rd =>
    rw [hc] at h4
    obtain ⟨q1, q2, q3, q4, q5, q6, q7⟩ := h4
    exact ⟨q1, q2, q3, q4, q5, q6, fun e => ⟨(q7 e).1, fun m => (q7 e).2 (hm m)⟩⟩
  | pu => rw [hc] at h4; exact h4
  | fl => rw [hc] at h4; exact h4
  | ef => rw [hc] at h4; exact h4
  | mu => rw [hc] at h4; exact h4
structure Tr (pm : PM) (ih : Ih) (ops : Array Oper) (nt : Nat) (s : Nat → DS) (val : Nat → AV) (wt : Nat → Bool) (obj : Nat → AObj) (h0 : H4) (nx0 nx1 : K) : Prop where
 fact : ∀ j o, ops[j]? = some o → gb pm ih ops nt j o (s j) (s (j + 1)) (val j) (wt j) (obj j)
 drawn : Drawn pm ops
 w0 : (s 0).w = .mk h0 nx1
 fk0 : (s 0).fk = nx0
 pend0 : (s 0).pend = []
 num : nx0.num + qf pm ops.toList ≤ nx1.num
 pv0 : (s 0).pv = .none
 pmd : ∀ i d, pm = .mk i d → ∃ o, ops[i]? = some o ∧ o.dst = some d ∧ cls pm o.op = .fl
 apt : noP pm = false → be9 (s ops.size).pv = true
 recs : aaz pm ops (s ops.size).recs ((ops.size, (s ops.size).w) :: (s ops.size).hist) = true
noncomputable def bhw (o : Oper) (τ : F) : AV × AV := match o.op with
 | .insert _ _ x y => (evX x τ, evX y τ)
 | _ => (.top, .top)
def bpg : CL → Bool
 | .mu => true
 | _ => false
def MU (pm : PM) (ops : Array Oper) (x : Nat) : Prop := ∃ o, ops[x]? = some o ∧ cls pm o.op = .mu
noncomputable def ach (pm : PM) (ops : Array Oper) (s : Nat → DS) (n : Nat) : List (AV × AV) := match ops[n]? with
 | some o => bif bpg (cls pm o.op) then [bhw o (s n).τ] else []
 | none => []
noncomputable def dn (pm : PM) (ops : Array Oper) (s : Nat → DS) (L : Nat → Bool) : Nat → List (AV × AV)
 | 0 => []
 | n + 1 => bif L n then dn pm ops s L n ++ ach pm ops s n else dn pm ops s L n
variable {s : Nat → DS} {val : Nat → AV} {wt : Nat → Bool} {obj : Nat → AObj} {h0 : H4} {nx0 nx1 : K}
def E (pm : PM) (ops : Array Oper) (x : Nat) : Prop := ∃ o, ops[x]? = some o ∧ cls pm o.op = .ef
def FW (pm : PM) (ops : Array Oper) (wt : Nat → Bool) (x : Nat) : Prop := wt x = true ∧ ∃ o, ops[x]? = some o ∧ cls pm o.op = .fl
theorem E.size {x : Nat} (h : E pm ops x) : x < ops.size := by obtain ⟨o, h, _⟩ := h; exact (zI.1 h).1
theorem pe {j : Nat} (h : j < ops.size) : ∃ o, ops[j]? = some o := ⟨_, Array.getElem?_eq_getElem h⟩
theorem Tr.w_step (T : Tr pm ih ops nt s val wt obj h0 nx0 nx1) {j : Nat} (hj : j < ops.size) (hn : ¬ E pm ops j) : (s (j + 1)).w = (s j).w := by
 obtain ⟨o, ho⟩ := pe hj
 have := T.fact j o ho
 unfold gb at this
 obtain ⟨_, _, _, h⟩ := this
 cases hc : cls pm o.op with
 | ef => exact absurd ⟨o, ho, hc⟩ hn
 | pu => rw [hc] at h; exact h.1
 | rd => rw [hc] at h; exact h.1
 | fl => rw [hc] at h; exact h.1
 | mu => rw [hc] at h; exact h.1
theorem Tr.w_const (T : Tr pm ih ops nt s val wt obj h0 nx0 nx1) {e : Nat} : ∀ j, e ≤ j → j ≤ ops.size → (∀ x, e ≤ x → x < j → ¬ E pm ops x) → (s j).w = (s e).w
 | 0, h, _, _ => by have : e = 0 := by omega
                    rw [this]
 | j + 1, h, hn, hx => by
   rcases Nat.lt_or_ge j e with h1 | h1
   ·have : e = j + 1 := by omega
    rw [this]
   ·rw [T.w_step (by omega) (hx j h1 (by omega)), T.w_const j h1 (by omega) fun x a b => hx x a (by omega)]
theorem adh {m : Nat} {p : PF} : ∀ {l : List PF}, p ∈ xj m l → p ∈ l ∧ tb m p.i = false
 | .mk i k o :: l, h => by
   simp only [xj, ac] at h
   split at h
   ·have := adh h; exact ⟨zS _ this.1, this.2⟩
   ·rename_i hb
    rcases List.mem_cons.1 h with e | e
    ·subst e; exact ⟨by simp, Bool.eq_false_iff.2 hb⟩
    ·have := adh e; exact ⟨zS _ this.1, this.2⟩
theorem ae8 {m : Nat} {R : PF → PF → Prop} : ∀ {l : List PF}, l.Pairwise R → (xj m l).Pairwise R
 | [], _ => List.Pairwise.nil
 | .mk i k o :: l, h => by
   obtain ⟨h1, h2⟩ := List.pairwise_cons.1 h
   simp only [xj, ac]
   split
   ·exact ae8 h2
   ·exact List.pairwise_cons.2 ⟨fun p hp => h1 p (adh hp).1, ae8 h2⟩
theorem Tr.pend (T : Tr pm ih ops nt s val wt obj h0 nx0 nx1) : ∀ j, j ≤ ops.size →
  (∀ p ∈ (s j).pend, p.i < j ∧ FW pm ops wt p.i ∧ (∀ x, x < j → E pm ops x → db ops p.i x = false) ∧ p.k = (s p.i).fk ∧ p.o = obj p.i ∧ isP pm p.i = false) ∧ (s j).pend.Pairwise (fun p q => q.i < p.i)
 | 0, _ => by rw [T.pend0]; exact ⟨fun p hp => (by cases hp), List.Pairwise.nil⟩
 | j + 1, hj => by
   obtain ⟨h1, h2⟩ := T.pend j (by omega)
   obtain ⟨o, ho⟩ := pe (ops := ops) (j := j) (by omega)
   have hf := T.fact j o ho
   unfold gb at hf
   obtain ⟨_, _, _, hf⟩ := hf
   have keep : ¬ E pm ops j → (s (j + 1)).pend = (s j).pend → (∀ p ∈ (s (j + 1)).pend, p.i < j + 1 ∧ FW pm ops wt p.i ∧ (∀ x, x < j + 1 → E pm ops x → db ops p.i x = false) ∧ p.k = (s p.i).fk ∧ p.o = obj p.i ∧ isP pm p.i = false) ∧ (s (j + 1)).pend.Pairwise (fun p q => q.i < p.i) := by
    intro hE he
    rw [he]
    refine ⟨fun p hp => ?_, h2⟩
    obtain ⟨q1, q2, q3, q4⟩ := h1 p hp
    refine ⟨by omega, q2, fun x hx hEx => ?_, q4⟩
    rcases Nat.lt_or_ge x j with h | h
    ·exact q3 x h hEx
    ·have : x = j := by omega
     subst this; exact absurd hEx hE
   have notE : cls pm o.op ≠ .ef → ¬ E pm ops j := by rintro hne ⟨o', ho', hc'⟩; rw [ho] at ho'; cases ho'; exact hne hc'
   cases hc : cls pm o.op with
   | pu => rw [hc] at hf; exact keep (notE (by rw [hc]; simp)) hf.2.2.1
   | rd => rw [hc] at hf; exact keep (notE (by rw [hc]; simp)) hf.2.2.1
   | mu => rw [hc] at hf; exact keep (notE (by rw [hc]; simp)) hf.2.2.1
   | fl =>
     rw [hc] at hf
     obtain ⟨_, _, _, f1, f2⟩ := hf
     cases hb : wt j with
     | false => exact keep (notE (by rw [hc]; simp)) (f1 hb).2.1
     | true =>
       cases hpj : isP pm j with
       | true => exact keep (notE (by rw [hc]; simp)) ((f2 hb).2.2.1 hpj).1
       | false =>
       obtain ⟨_, f3, _⟩ := f2 hb
       rw [(f3 hpj).1]
       refine ⟨fun p hp => ?_, List.pairwise_cons.2 ⟨fun p hp => (h1 p hp).1, h2⟩⟩
       rcases List.mem_cons.1 hp with e | e
       ·subst e
        refine ⟨by simp [PF.i], ⟨hb, o, ho, hc⟩, fun x hx hEx => ?_, rfl, rfl, hpj⟩
        show db ops j x = false
        cases hbf : db ops j x with
        | false => rfl
        | true =>
          exfalso
          rcases Nat.lt_or_ge x j with h | h
          ·have hcl : im ops (fun i => decide (i ≤ x)) := by
            intro y oy hy hL e he hb
            have := T.drawn.edge y oy hy e he hb
            have hL := of_decide_eq_true hL
            exact decide_eq_true (by omega)
           have := d7 hcl hbf (decide_eq_true (zY x))
           have := of_decide_eq_true this
           omega
          ·have : x = j := by omega
           subst this
           exact notE (by rw [hc]; simp) hEx
       ·obtain ⟨q1, q2, q3, q4⟩ := h1 p e
        refine ⟨by omega, q2, fun x hx hEx => ?_, q4⟩
        rcases Nat.lt_or_ge x j with h | h
        ·exact q3 x h hEx
        ·have : x = j := by omega
         subst this; exact absurd hEx (notE (by rw [hc]; simp))
   | ef =>
     rw [hc] at hf
     obtain ⟨_, f1, _⟩ := hf
     rw [f1]
     refine ⟨fun p hp => ?_, ae8 h2⟩
     obtain ⟨m1, m2⟩ := adh hp
     obtain ⟨q1, q2, q3, q4⟩ := h1 p m1
     refine ⟨by omega, q2, fun x hx hEx => ?_, q4⟩
     rcases Nat.lt_or_ge x j with h | h
     ·exact q3 x h hEx
     ·have : x = j := by omega
      subst this; exact m2
theorem afl (B p : Nat) : ∀ (l : List Oper) (j i : Nat), (mt B p l j)[i]? = (l[i]?).map fun o => bif tb (fld B (j + i)) p then dummy else o
 | [], _, _ => by simp [mt]
 | o :: l, j, 0 => by simp only [mt, List.getElem?_cons_zero, Option.map_some, Nat.add_zero, ac]; cases tb (fld B j) p <;> rfl
 | o :: l, j, i + 1 => by
   simp only [mt, List.getElem?_cons_succ]
   rw [afl B p l (Nat.succ j) i, show Nat.succ j + i = j + (i + 1) by omega]
theorem afm (B p : Nat) : ∀ (l : List Oper) (j : Nat), (mt B p l j).length = l.length
 | [], _ => rfl
 | o :: l, j => by simp [mt, afm B p l]
theorem ame (ops : Array Oper) (p j : Nat) : (e9 ops p)[j]? = (ops[j]?).map fun o => bif db ops p j then dummy else o := by
 unfold e9
 rw [zZ, afl, Nat.zero_add]
 simp only [Array.getElem?_toList]
 rfl
theorem axv (ops : Array Oper) (p : Nat) : (e9 ops p).size = ops.size := by
 unfold e9
 simp [afm]
theorem asb (B p : Nat) : ∀ (l : List Oper) (j : Nat), qf .none (mt B p l j) ≤ qf .none l
 | [], _ => zY _
 | o :: l, j => by
   have ih := asb B p l (Nat.succ j)
   simp only [mt, qf, ac]
   cases tb (fld B j) p with
   | true =>
     simp only [if_true]
     have : bpf (cls .none dummy.op) = false := rfl
     rw [this]
     simp only [zG, if_false]
     split <;> omega
   | false =>
     simp only [zG, if_false]
     split <;> omega
theorem ayi {i : Nat} (h : isP pm i = true) : ∃ d, pm = .mk i d := by
 cases pm with
 | none => cases h
 | mk i' d => have h : Nat.beq i' i = true := h; rw [zW h]; exact ⟨d, rfl⟩
theorem ao3 {i i' : Nat} (h : isP pm i = true) (h' : isP pm i' = true) : i = i' := by
 obtain ⟨d, rfl⟩ := ayi h
 exact zW h'
theorem aiv {x : Nat} (h : ¬ MU pm ops x) : ach pm ops s x = [] := by
 unfold ach
 split
 ·rename_i o ho
  cases hm : bpg (cls pm o.op) with
  | false => rfl
  | true =>
    exfalso
    refine h ⟨o, ho, ?_⟩
    cases hc : cls pm o.op <;> rw [hc] at hm <;> first | rfl | cases hm
 ·rfl
theorem a0n {x : Nat} {o : Oper} (ho : ops[x]? = some o) (h : cls pm o.op = .mu) : ach pm ops s x = [bhw o (s x).τ] := by
 unfold ach; rw [ho]; dsimp only; rw [h]; rfl
theorem aiw {L L' : Nat → Bool} : ∀ n, (∀ i, i < n → L i = L' i) → dn pm ops s L n = dn pm ops s L' n
 | 0, _ => rfl
 | n + 1, h => by simp only [dn, aiw n fun i hi => h i (by omega), h n (by omega)]
theorem agf {L : Nat → Bool} {j : Nat} (h : ¬ MU pm ops j) : ∀ n, dn pm ops s (upL L j) n = dn pm ops s L n
 | 0 => rfl
 | n + 1 => by
   simp only [dn, agf h n]
   by_cases e : n = j
   ·subst e; rw [aiv h]; simp
   ·rw [bu L e]
theorem bj1 {L : Nat → Bool} {j : Nat} (hL : L j = false) : ∀ n, j < n → (dn pm ops s (upL L j) n).Perm (dn pm ops s L n ++ ach pm ops s j)
 | n + 1, hj => by
   simp only [dn]
   by_cases e : n = j
   ·subst e
    rw [jt, hL, aiw (L' := L) n fun i hi => bu L (by omega)]
    exact List.Perm.refl _
   ·have ih := bj1 hL n (by omega)
    rw [bu L e]
    cases L n with
    | false => exact ih
    | true =>
      simp only [cond_true]
      refine (ih.append_right _).trans ?_
      rw [List.append_assoc, List.append_assoc]
      exact List.Perm.append_left _ List.perm_append_comm
theorem aix {L : Nat → Bool} {e : AV × AV} : ∀ n, e ∈ dn pm ops s L n → ∃ i, i < n ∧ L i = true ∧ e ∈ ach pm ops s i
 | n + 1, h => by
   simp only [dn] at h
   cases hl : L n with
   | false =>
     rw [hl] at h
     obtain ⟨i, h1, h2⟩ := aix n h
     exact ⟨i, by omega, h2⟩
   | true =>
     rw [hl] at h
     rcases List.mem_append.1 h with h | h
     ·obtain ⟨i, h1, h2⟩ := aix n h
      exact ⟨i, by omega, h2⟩
     ·exact ⟨n, by omega, hl, h⟩
theorem aod {L : Nat → Bool} {j : Nat} : ∀ n, j ≤ n → ∃ r, dn pm ops s L n = dn pm ops s L j ++ r
 | 0, h => ⟨[], by have : j = 0 := by omega
                   subst this; simp⟩
 | n + 1, h => by
   rcases Nat.lt_or_ge n j with q | q
   ·have : j = n + 1 := by omega
    subst this; exact ⟨[], by simp⟩
   ·obtain ⟨r, hr⟩ := aod (L := L) n q
    simp only [dn]
    cases L n with
    | false => exact ⟨r, hr⟩
    | true => exact ⟨r ++ ach pm ops s n, by simp only [cond_true, hr, List.append_assoc]⟩
theorem apg {x : Nat} {e : AV × AV} (h : e ∈ ach pm ops s x) : MU pm ops x := Classical.byContradiction fun hn => by rw [aiv hn] at h; cases h
theorem Tr.pv (T : Tr pm ih ops nt s val wt obj h0 nx0 nx1) : ∀ j, j ≤ ops.size → ((s j).pv = .none ∧ ∀ x, x < j → ¬ MU pm ops x) ∨
  ∃ i, isP pm i = true ∧ i < j ∧ FW pm ops wt i ∧ (s j).pv = .mk (s i).fk (dn pm ops s (fun _ => true) j)
 | 0, _ => .inl ⟨T.pv0, fun x h => by omega⟩
 | j + 1, hj => by
   have ih := T.pv j (by omega)
   obtain ⟨o, ho⟩ := pe (ops := ops) (j := j) (by omega)
   have hf := T.fact j o ho
   unfold gb at hf
   obtain ⟨_, _, _, hf⟩ := hf
   have keep : cls pm o.op ≠ .mu → (s (j + 1)).pv = (s j).pv → ((s (j + 1)).pv = .none ∧ ∀ x, x < j + 1 → ¬ MU pm ops x) ∨
     ∃ i, isP pm i = true ∧ i < j + 1 ∧ FW pm ops wt i ∧ (s (j + 1)).pv = .mk (s i).fk (dn pm ops s (fun _ => true) (j + 1)) := by
    intro hne he
    have hM : ¬ MU pm ops j := by rintro ⟨o', ho', hc'⟩; rw [ho] at ho'; cases ho'; exact hne hc'
    rw [he]
    rcases ih with ⟨h1, h2⟩ | ⟨i, h1, h2, h3, h4⟩
    ·refine .inl ⟨h1, fun x hx => ?_⟩
     rcases Nat.lt_or_ge x j with h | h
     ·exact h2 x h
     ·have : x = j := by omega
      subst this; exact hM
    ·refine .inr ⟨i, h1, by omega, h3, ?_⟩
     rw [h4]
     simp only [dn, cond_true, aiv hM, List.append_nil]
   cases hc : cls pm o.op with
   | pu => rw [hc] at hf; exact keep (by rw [hc]; simp) hf.2.2.2.2.2.1
   | rd => rw [hc] at hf; exact keep (by rw [hc]; simp) hf.2.2.2.2.2.1
   | ef => rw [hc] at hf; exact keep (by rw [hc]; simp) hf.2.2.2.2.1
   | fl =>
     rw [hc] at hf
     obtain ⟨_, _, _, f1, f2⟩ := hf
     cases hb : wt j with
     | false => exact keep (by rw [hc]; simp) (f1 hb).2.2
     | true =>
       cases hp : isP pm j with
       | false => exact keep (by rw [hc]; simp) ((f2 hb).2.1 hp).2
       | true =>
         have hM : ¬ MU pm ops j := by rintro ⟨o', ho', hc'⟩; rw [ho] at ho'; cases ho'; rw [hc] at hc'; cases hc'
         rcases ih with ⟨h1, h2⟩ | ⟨i, h1, h2, h3, h4⟩
         ·refine .inr ⟨j, hp, by omega, ⟨hb, o, ho, hc⟩, ?_⟩
          rw [((f2 hb).2.2.1 hp).2.1]
          have : dn pm ops s (fun _ => true) (j + 1) = [] := by
           rw [List.eq_nil_iff_forall_not_mem]
           intro e he
           obtain ⟨i, q1, _, q3⟩ := aix _ he
           rcases Nat.lt_or_ge i j with h | h
           ·exact h2 i h (apg q3)
           ·have : i = j := by omega
            subst this; exact hM (apg q3)
          rw [this]
         ·have := ao3 h1 hp
          omega
   | mu =>
     rw [hc] at hf
     obtain ⟨_, _, _, _, _, _, _, t, m, x, y, k, es, hop, hp1, hp2, _⟩ := hf
     rcases ih with ⟨h1, h2⟩ | ⟨i, h1, h2, h3, h4⟩
     ·rw [h1] at hp1; cases hp1
     ·refine .inr ⟨i, h1, by omega, h3, ?_⟩
      rw [h4] at hp1
      injection hp1 with e1 e2
      rw [hp2, ← e1, ← e2]
      simp only [dn, cond_true, a0n ho hc]
      unfold bhw
      rw [hop]
theorem Tr.mu_done (T : Tr pm ih ops nt s val wt obj h0 nx0 nx1) {L : Nat → Bool} (hc : im ops L) {i j : Nat} (hp : isP pm i = true) (hM : MU pm ops j) (hL : L j = true) : L i = true := by
 obtain ⟨o, ho, hm⟩ := hM
 have hj := (zI.1 ho).1
 have hf := T.fact j o ho
 unfold gb at hf
 obtain ⟨_, _, _, hf⟩ := hf
 rw [hm] at hf
 obtain ⟨_, _, _, _, _, _, _, _, _, _, _, k, es, _, hp1, _, _⟩ := hf
 rcases T.pv j (by omega) with ⟨q, _⟩ | ⟨i', h1, h2, h3, h4⟩
 ·rw [q] at hp1; cases hp1
 ·have := ao3 hp h1
  subst this
  obtain ⟨i2, t, d, x, y, e1, e2⟩ := blz hm
  obtain ⟨d', e3⟩ := ayi hp
  rw [e1] at e3
  injection e3 with e3 e4
  subst e3 e4
  obtain ⟨oi, q1, q2, q3⟩ := T.pmd _ _ e1
  have hbf := (T.drawn.tmp i2 j oi o d (by omega) q1 ho q2 (by
   unfold px
   refine List.mem_append_left _ (aby ?_)
   rw [e2]; simp [Op.operands])).1 h2
  exact d7 hc hbf hL
theorem Tr.dn_nil (T : Tr pm ih ops nt s val wt obj h0 nx0 nx1) {L : Nat → Bool} (hc : im ops L) {i : Nat} (hp : isP pm i = true) (hL : L i = false) (n : Nat) : dn pm ops s L n = [] := by
 rw [List.eq_nil_iff_forall_not_mem]
 intro e he
 obtain ⟨x, _, q2, q3⟩ := aix _ he
 have := T.mu_done hc hp (apg q3) q2
 rw [hL] at this; cases this
theorem asa {a b : AV} (h : amd a b = true) : qe a b = some false ∧ qe b a = some false := by
 unfold amd at h
 split at h
 ·rename_i h1 h2; exact ⟨h1, h2⟩
 ·cases h
theorem ab5 {a : AV} : ∀ {l : List (AV × AV)}, ab4 a l = true → ∀ e ∈ l, amd a e.1 = true
 | x :: l, h, e, he => by
   simp only [ab4] at h
   obtain ⟨h1, h2⟩ := bc_and.1 h
   rcases List.mem_cons.1 he with q | q
   ·subst q; exact h1
   ·exact ab5 h2 e q
theorem aka : ∀ {l : List (AV × AV)}, auw l = true → l.Pairwise (fun e f => amd e.1 f.1 = true)
 | [], _ => List.Pairwise.nil
 | x :: l, h => by
   simp only [auw] at h
   obtain ⟨h1, h2⟩ := bc_and.1 h
   exact List.pairwise_cons.2 ⟨fun e he => ab5 h1 e he, aka h2⟩
theorem Tr.far (T : Tr pm ih ops nt s val wt obj h0 nx0 nx1) {i : Nat} (hp : isP pm i = true) (hi : FW pm ops wt i) {x y : Nat} (hlt : x < y) (hy : y < ops.size) {e f : AV × AV} (he : e ∈ ach pm ops s x) (hf : f ∈ ach pm ops s y) : amd e.1 f.1 = true := by
 have hpv : be9 (s ops.size).pv = true := T.apt (by obtain ⟨d, rfl⟩ := ayi hp; rfl)
 rcases T.pv ops.size (zY _) with ⟨_, q⟩ | ⟨i', _, _, _, h4⟩
 ·exact absurd (apg hf) (q y hy)
 ·rw [h4] at hpv
  have hpw := aka (show auw _ = true from hpv)
  obtain ⟨r, hr⟩ := aod (pm := pm) (ops := ops) (s := s) (L := fun _ => true) (j := y + 1) ops.size (by omega)
  rw [hr] at hpw
  have h1 := (List.pairwise_append.1 hpw).1
  simp only [dn, cond_true] at h1
  refine (List.pairwise_append.1 h1).2.2 e ?_ f hf
  obtain ⟨r', hr'⟩ := aod (pm := pm) (ops := ops) (s := s) (L := fun _ => true) (j := x + 1) y (by omega)
  rw [hr']
  simp only [dn, cond_true]
  exact List.mem_append_left _ (List.mem_append_right _ he)
theorem Tr.fk_step (T : Tr pm ih ops nt s val wt obj h0 nx0 nx1) {j : Nat} {o : Oper} (ho : ops[j]? = some o) : (s (j + 1)).fk = (s j).fk ∨ (cls pm o.op = .fl ∧ (s (j + 1)).fk.num = (s j).fk.num + 1) := by
 have hf := T.fact j o ho
 unfold gb at hf
 obtain ⟨_, _, _, hf⟩ := hf
 cases hc : cls pm o.op with
 | pu => rw [hc] at hf; exact .inl hf.2.1
 | rd => rw [hc] at hf; exact .inl hf.2.1
 | ef => rw [hc] at hf; exact .inl hf.1
 | mu => rw [hc] at hf; exact .inl hf.2.1
 | fl =>
   rw [hc] at hf
   obtain ⟨_, _, _, f1, f2⟩ := hf
   cases hb : wt j with
   | false => exact .inl (f1 hb).1
   | true => obtain ⟨f3, _, _, f4, _⟩ := f2 hb; rw [f3, K.succ_num f4]; exact .inr ⟨rfl, rfl⟩
theorem Tr.fk_fw (T : Tr pm ih ops nt s val wt obj h0 nx0 nx1) {j : Nat} (h : FW pm ops wt j) : (s (j + 1)).fk.num = (s j).fk.num + 1 := by
 obtain ⟨hb, o, ho, hc⟩ := h
 have hf := T.fact j o ho
 unfold gb at hf
 obtain ⟨_, _, _, hf⟩ := hf
 rw [hc] at hf
 obtain ⟨_, _, _, _, f2⟩ := hf
 obtain ⟨f3, _, _, f4, _⟩ := f2 hb
 rw [f3, K.succ_num f4]
theorem Tr.fk_mono (T : Tr pm ih ops nt s val wt obj h0 nx0 nx1) {i : Nat} : ∀ j, i ≤ j → j ≤ ops.size → (s i).fk.num ≤ (s j).fk.num
 | 0, h, _ => by have : i = 0 := by omega
                 rw [this]; exact zY _
 | j + 1, h, hj => by
   rcases Nat.lt_or_ge j i with h1 | h1
   ·have : i = j + 1 := by omega
    rw [this]; exact zY _
   ·have ih := T.fk_mono j h1 (by omega)
    obtain ⟨o, ho⟩ := pe (ops := ops) (j := j) (by omega)
    rcases T.fk_step ho with e | ⟨_, e⟩
    ·rw [e]; exact ih
    ·omega
theorem Tr.fk_bound (T : Tr pm ih ops nt s val wt obj h0 nx0 nx1) : ∀ j, j ≤ ops.size → (s j).fk.num + qf pm (ops.toList.drop j) ≤ nx1.num
 | 0, _ => by rw [T.fk0]; simpa using T.num
 | j + 1, hj => by
   have ih := T.fk_bound j (by omega)
   obtain ⟨o, ho⟩ := pe (ops := ops) (j := j) (by omega)
   have hd : ops.toList.drop j = o :: ops.toList.drop (j + 1) := by
    rw [List.drop_eq_getElem_cons (by simpa using (zI.1 ho).1)]
    congr 1
    have := (zI.1 ho).2
    simpa using this
   rw [hd] at ih
   simp only [qf, ac] at ih
   rcases T.fk_step ho with e | ⟨e1, e⟩
   ·rw [e]
    split at ih <;> omega
   ·rw [if_pos (by rw [e1]; rfl)] at ih
    omega
theorem Tr.key_lt (T : Tr pm ih ops nt s val wt obj h0 nx0 nx1) {j : Nat} (h : FW pm ops wt j) : nx0.num ≤ (s j).fk.num ∧ (s j).fk.num < nx1.num := by
 obtain ⟨o, ho, hc⟩ := h.2
 have hj := (zI.1 ho).1
 have h1 := T.fk_mono (i := 0) j (by omega) (by omega)
 rw [T.fk0] at h1
 have h2 := T.fk_bound (j + 1) (by omega)
 have h3 := T.fk_fw h
 omega
theorem Tr.key_inj (T : Tr pm ih ops nt s val wt obj h0 nx0 nx1) {i j : Nat} (hi : FW pm ops wt i) (hj : FW pm ops wt j) (h : (s i).fk = (s j).fk) : i = j := by
 have lt : ∀ {i j}, FW pm ops wt i → FW pm ops wt j → i < j → (s i).fk ≠ (s j).fk := by
  intro i j hi hj hlt e
  obtain ⟨o, ho, _⟩ := hj.2
  have hj' := (zI.1 ho).1
  have h1 := T.fk_mono (i := i + 1) j (by omega) (by omega)
  have h2 := T.fk_fw hi
  rw [e] at h2
  omega
 rcases Nat.lt_trichotomy i j with h1 | h1 | h1
 ·exact absurd h (lt hi hj h1)
 ·exact h1
 ·exact absurd h.symm (lt hj hi h1)
theorem Tr.hist (T : Tr pm ih ops nt s val wt obj h0 nx0 nx1) {x : Nat} (hx : E pm ops x) : ∀ j, x < j → j ≤ ops.size → (x, (s x).w) ∈ (s j).hist
 | j + 1, h, hj => by
   obtain ⟨o, ho⟩ := pe (ops := ops) (j := j) (by omega)
   have hf := T.fact j o ho
   unfold gb at hf
   obtain ⟨_, _, _, hf⟩ := hf
   rcases Nat.lt_or_ge x j with h1 | h1
   ·have ih := T.hist hx j h1 (by omega)
    cases hc : cls pm o.op with
    | pu => rw [hc] at hf; rw [hf.2.2.2.1]; exact ih
    | rd => rw [hc] at hf; rw [hf.2.2.2.1]; exact ih
    | mu => rw [hc] at hf; rw [hf.2.2.2.1]; exact ih
    | fl => rw [hc] at hf; rw [hf.2.1]; exact ih
    | ef => rw [hc] at hf; rw [hf.2.2.1]; exact zS _ ih
   ·have : x = j := by omega
    subst this
    obtain ⟨o', ho', hc⟩ := hx
    rw [ho] at ho'; cases ho'
    rw [hc] at hf
    rw [hf.2.2.1]
    simp
theorem Tr.rec_mem (T : Tr pm ih ops nt s val wt obj h0 nx0 nx1) {r : RC} {i : Nat} : ∀ j, i ≤ j → j ≤ ops.size → r ∈ (s i).recs → r ∈ (s j).recs
 | 0, h, _, hr => by have : i = 0 := by omega
                     rw [← this]; exact hr
 | j + 1, h, hj, hr => by
   rcases Nat.lt_or_ge j i with h1 | h1
   ·have : i = j + 1 := by omega
    rw [← this]; exact hr
   ·have ih := T.rec_mem j h1 (by omega) hr
    obtain ⟨o, ho⟩ := pe (ops := ops) (j := j) (by omega)
    have hf := T.fact j o ho
    unfold gb at hf
    obtain ⟨_, _, _, hf⟩ := hf
    cases hc : cls pm o.op with
    | pu => rw [hc] at hf; rw [hf.2.2.2.2.1]; exact ih
    | rd => rw [hc] at hf; exact hf.2.2.2.2.1 r ih
    | mu => rw [hc] at hf; rw [hf.2.2.2.2.1]; exact ih
    | fl => rw [hc] at hf; rw [hf.2.2.1]; exact ih
    | ef => rw [hc] at hf; rw [hf.2.2.2.1]; exact ih
theorem amk {i : Nat} {op : Op} {τ : F} {v : AV} {e : Nat} {w : W} : ∀ {l : List (Nat × W)}, bae pm ops (.mk i op τ v) l = true → (e, w) ∈ l → agc pm ops i e = true → bfe op τ v w = true
 | (e', w') :: l, h, hm, ha => by
   simp only [bae] at h
   obtain ⟨h1, h2⟩ := bc_and.1 h
   rcases List.mem_cons.1 hm with x | x
   ·cases x; exact bc_imp.1 h1 ha
   ·exact amk h2 x ha
theorem ait {r : RC} {h : List (Nat × W)} : ∀ {l : List RC}, aaz pm ops l h = true → r ∈ l → bae pm ops r h = true
 | r' :: l, hh, hm => by
   simp only [aaz] at hh
   obtain ⟨h1, h2⟩ := bc_and.1 hh
   rcases List.mem_cons.1 hm with x | x
   ·subst x; exact h1
   ·exact ait h2 x
theorem effs_iff {x : Nat} : x ∈ bl6 pm ops ↔ E pm ops x :=
 ⟨fun h => aeh ops.toList 0 rfl x h, fun ⟨o, ho, hc⟩ => aiy ops.toList 0 rfl x o (Nat.zero_le _) ho hc⟩
theorem auo (ops : Array Oper) : ∀ k e, k = ops.size - e → e ≤ ops.size → ∃ e', e ≤ e' ∧ e' ≤ ops.size ∧ (∀ x, e ≤ x → x < e' → ¬ E pm ops x) ∧ (e' = ops.size ∨ E pm ops e')
 | 0, e, hk, he => ⟨e, zY _, he, fun x a b => by omega, .inl (by omega)⟩
 | k + 1, e, hk, he => by
   by_cases h : E pm ops e
   ·exact ⟨e, zY _, he, fun x a b => by omega, .inr h⟩
   ·obtain ⟨e', h1, h2, h3, h4⟩ := auo ops k (e + 1) (by omega) (by omega)
    refine ⟨e', by omega, h2, fun x a b => ?_, h4⟩
    rcases Nat.eq_or_lt_of_le a with q | q
    ·rw [← q]; exact h
    ·exact h3 x (by omega) b
theorem Tr.read (T : Tr pm ih ops nt s val wt obj h0 nx0 nx1) {j e : Nat} {o : Oper} (ho : ops[j]? = some o) (hc : cls pm o.op = .rd) (hb : wt j = true) (he : e ≤ ops.size)
  (h1 : ∀ x, E pm ops x → db ops x j = true → x < e) (h2 : ∀ x, E pm ops x → x < e → db ops j x = false) : zOp o.op (s j).τ (s e).w = .val (val j) (s e).w := by
 have hj := (zI.1 ho).1
 have hf := T.fact j o ho
 unfold gb at hf
 obtain ⟨_, _, _, hf⟩ := hf
 rw [hc] at hf
 obtain ⟨_, _, _, _, _, _, f1⟩ := hf
 obtain ⟨f2, f3⟩ := f1 hb
 cases hm : wy pm ops j with
 | false =>
   unfold wy at hm
   rw [an9, Bool.not_eq_false'] at hm
   rw [ah6] at hm
   have key : ∀ x, E pm ops x → (x < j → db ops x j = true) ∧ (j < x → db ops j x = true) := by
    intro x hx
    obtain ⟨q1, q2⟩ := bc_and.1 (hm x (effs_iff.2 hx))
    exact ⟨fun h => bc_imp.1 q1 (y9 h), fun h => bc_imp.1 q2 (y9 h)⟩
   have hsame : (s e).w = (s j).w := by
    rcases Nat.le_total e j with h | h
    ·refine (T.w_const j h (by omega) fun x a b hx => ?_).symm
     have := h1 x hx ((key x hx).1 b)
     omega
    ·refine T.w_const e h he fun x a b hx => ?_
     have hne : x ≠ j := by
      rintro rfl
      obtain ⟨o', ho', hc'⟩ := hx
      rw [ho] at ho'; cases ho'; rw [hc] at hc'; cases hc'
     have q := (key x hx).2 (by omega)
     have := h2 x hx b
     rw [q] at this; cases this
   rw [hsame]
   exact f2
 | true =>
   have hr := T.rec_mem ops.size (i := j + 1) (by omega) (zY _) (f3 hm)
   have hd := ait T.recs hr
   obtain ⟨e', q1, q2, q3, q4⟩ := auo ops _ e rfl he
   have hw : (s e').w = (s e).w := T.w_const e' q1 q2 q3
   have hmem : (e', (s e').w) ∈ ((ops.size, (s ops.size).w) :: (s ops.size).hist) := by
    rcases q4 with q4 | q4
    ·subst q4; simp
    ·exact zS _ (T.hist q4 ops.size q4.size (zY _))
   have hall : agc pm ops j e' = true := by
    unfold agc
    rw [ah6]
    intro x hx
    have hx := effs_iff.1 hx
    refine bc_and.2 ⟨bc_imp.2 fun hbf => ?_, bc_imp.2 fun hlt => ?_⟩
    ·have := h1 x hx hbf
     exact y9 (by omega)
    ·have hlt := aex hlt
     rcases Nat.lt_or_ge x e with h | h
     ·rw [h2 x hx h]; rfl
     ·exact absurd hx (q3 x h hlt)
   have := amk hd hmem hall
   unfold bfe at this
   split at this
   ·rename_i v' a' hv
    have hv := ajg hv
    have hs := a23 (a := (s e').w) (a8y hc) (s j).τ
    rw [hv] at hs
    have hs : a' = (s e').w := hs
    rw [bfi _ _ this, ← hw, hv, hs]
   ·cases this
end
end Go.Ev
set_option linter.all false
namespace Go.Ev
variable [Gv]
noncomputable def TL (ops : Array Oper) (nt : Nat) (val : Nat → AV) (τ0 : F) (L : Nat → Bool) : Nat → F
 | 0 => τ0
 | k + 1 => bif L k then (match ops[k]? with | some o => rp nt o.dst (val k) (TL ops nt val τ0 L k) | none => TL ops nt val τ0 L k) else TL ops nt val τ0 L k
section
variable {pm : PM} {ih : Ih} {ops : Array Oper} {nt fn : Nat} {s : Nat → DS} {val : Nat → AV} {wt : Nat → Bool} {obj : Nat → AObj} {h0 : H4} {nx0 nx1 : K} {τ0 : F} {L : Nat → Bool}
theorem ki (hn : nt ≤ 512) {t : Nat} (ht : t < 512) (dst : Option Nat) (v : AV) (τ : F) : ii t (rp nt dst v τ) = if dst = some t ∧ t < nt then v else ii t τ := by
 cases dst with
 | none => rw [if_neg (by simp)]; rfl
 | some d =>
   show ii t (ams nt d v τ) = _
   unfold ams
   rw [ac]
   split
   ·rename_i h
    have h := aex h
    rw [zf d t v τ (by omega) ht]
    by_cases e : d = t
    ·subst e; rw [if_pos rfl, if_pos ⟨rfl, h⟩]
    ·rw [if_neg e, if_neg (by rintro ⟨h1, _⟩; injection h1 with h1; exact e h1)]
   ·rename_i h
    have h : ¬ d < nt := fun x => h (y9 x)
    rw [if_neg (by rintro ⟨h1, h2⟩; injection h1 with h1; omega)]
theorem vz {k : Nat} (h : L k = false) : TL ops nt val τ0 L (k + 1) = TL ops nt val τ0 L k := by simp only [TL, h, cond_false]
theorem abx {k : Nat} {o : Oper} (ho : ops[k]? = some o) (h : L k = true) : TL ops nt val τ0 L (k + 1) = rp nt o.dst (val k) (TL ops nt val τ0 L k) := by simp only [TL, h, cond_true, ho]
theorem a3b (hn : nt ≤ 512) {t k : Nat} (ht : t < 512) (h : ∀ o, ops[k]? = some o → o.dst = some t → L k = false) : ii t (TL ops nt val τ0 L (k + 1)) = ii t (TL ops nt val τ0 L k) := by
 cases hL : L k with
 | false => rw [vz hL]
 | true =>
   cases ho : ops[k]? with
   | none => simp only [TL, hL, cond_true, ho]
   | some o =>
     rw [abx ho hL, ki hn ht, if_neg]
     rintro ⟨h1, _⟩
     have := h o ho h1
     rw [hL] at this; cases this
theorem avv (T : Tr pm ih ops nt s val wt obj h0 nx0 nx1) (hn : nt ≤ 512) (hτ : (s 0).τ = τ0) {j t : Nat} (hj : j ≤ ops.size)
  (h1 : ∀ i o, i < j → ops[i]? = some o → o.dst = some t → L i = true) (h2 : ∀ i o, j ≤ i → ops[i]? = some o → o.dst = some t → L i = false) :
  ii t (TL ops nt val τ0 L ops.size) = ii t (s j).τ := by
 by_cases ht : t < 512
 ·have p1 : ∀ k, k ≤ j → ii t (TL ops nt val τ0 L k) = ii t (s k).τ := by
   intro k
   induction k with
   | zero => intro _; rw [hτ]; rfl
   | succ k ih =>
     intro hk
     obtain ⟨o, ho⟩ := pe (ops := ops) (j := k) (by omega)
     have hf := (T.fact k o ho).1
     rw [hf, ki hn ht]
     by_cases hd : o.dst = some t ∧ t < nt
     ·rw [if_pos hd, abx ho (h1 k o (by omega) ho hd.1), ki hn ht, if_pos hd]
     ·rw [if_neg hd]
      cases hL : L k with
      | false => rw [vz hL]; exact ih (by omega)
      | true => rw [abx ho hL, ki hn ht, if_neg hd]; exact ih (by omega)
  have p2 : ∀ k, j ≤ k → ii t (TL ops nt val τ0 L k) = ii t (TL ops nt val τ0 L j) := by
   intro k
   induction k with
   | zero => intro h; have : j = 0 := by omega
             rw [this]
   | succ k ih =>
     intro hk
     rcases Nat.lt_or_ge k j with h | h
     ·have : j = k + 1 := by omega
      rw [this]
     ·rw [a3b hn ht fun o ho hd => h2 k o h ho hd]; exact ih h
  rw [p2 ops.size hj, p1 j (zY _)]
 ·rw [ul (by omega), ul (by omega)]
theorem avw {L' : Nat → Bool} : ∀ k, (∀ i, i < k → L i = L' i) → TL ops nt val τ0 L k = TL ops nt val τ0 L' k
 | 0, _ => rfl
 | k + 1, h => by
   have ih := avw k fun i hi => h i (by omega)
   simp only [TL, ih, h k (by omega)]
theorem bq6 (hn : nt ≤ 512) {j t : Nat} {o : Oper} (ho : ops[j]? = some o) (hL : L j = false) (ht : t < 512) (h : o.dst = some t → ∀ i oi, j < i → ops[i]? = some oi → oi.dst = some t → L i = false) :
  ii t (TL ops nt val τ0 (upL L j) ops.size) = if o.dst = some t ∧ t < nt then val j else ii t (TL ops nt val τ0 L ops.size) := by
 have hj := (zI.1 ho).1
 have p0 : TL ops nt val τ0 (upL L j) j = TL ops nt val τ0 L j := avw j fun i hi => bu L (by omega)
 have p1 : ii t (TL ops nt val τ0 (upL L j) (j + 1)) = if o.dst = some t ∧ t < nt then val j else ii t (TL ops nt val τ0 L (j + 1)) := by
  rw [abx ho (jt L j), ki hn ht, p0, vz hL]
 have p2 : ∀ k, j + 1 ≤ k → ii t (TL ops nt val τ0 (upL L j) k) = if o.dst = some t ∧ t < nt then val j else ii t (TL ops nt val τ0 L k) := by
  intro k
  induction k with
  | zero => intro h; omega
  | succ k ih =>
    intro hk
    rcases Nat.lt_or_ge k (j + 1) with q | q
    ·have : k = j := by omega
     rw [this]; exact p1
    ·have ihk := ih q
     by_cases hd : o.dst = some t ∧ t < nt
     ·rw [if_pos hd] at ihk ⊢
      rw [a3b hn ht, ihk]
      intro oi hoi hdi
      rw [bu L (by omega)]
      exact h hd.1 k oi (by omega) hoi hdi
     ·rw [if_neg hd] at ihk ⊢
      have hk' : upL L j k = L k := bu L (by omega)
      cases hLk : L k with
      | false => rw [vz (by rw [hk']; exact hLk), vz hLk]; exact ihk
      | true =>
        cases hok : ops[k]? with
        | none => simp only [TL, hk', hLk, cond_true, hok]; exact ihk
        | some ok =>
          rw [abx hok (by rw [hk']; exact hLk), abx hok hLk, ki hn ht, ki hn ht, ihk]
 exact p2 ops.size (by omega)
variable {ρ0 : Env} {w0 : World} {a0 : Act}
structure IV (pm : PM) (ops : Array Oper) (nt : Nat) (s : Nat → DS) (val : Nat → AV) (wt : Nat → Bool) (obj : Nat → AObj) (h0 : H4) (nx0 nx1 : K) (τ0 : F) (ρ0 : Env) (w0 : World) (a0 : Act)
  (L : Nat → Bool) (e : Nat) (ρ : Env) (a : Act) (w : World) : Prop where
 cl : im ops L
 le : e ≤ ops.size
 ph : ∀ x, E pm ops x → (L x = true ↔ x < e)
 adv : Adv ρ0 (.mk h0 nx0) w0 ρ (s e).w w
 clean : Clean ρ (s e).w
 nx : nx1.num ≤ (s e).w.nx.num
 fr : FRel ρ (TL ops nt val τ0 L ops.size) a.tmps
 sz : a.tmps.size = nt
 dr : a.defers = a0.defers
 held : ∀ j, FW pm ops wt j → isP pm j = false → L j = true → (∀ x, x < e → E pm ops x → db ops j x = false) → Held w0.heap.size ρ (s e).w w (s j).fk (obj j)
 sep : ∀ i j, FW pm ops wt i → FW pm ops wt j → L i = true → L j = true → i ≠ j → ρ (s i).fk ≠ ρ (s j).fk
 lt : ∀ j, FW pm ops wt j → L j = true → ∃ c, ρ (s j).fk = some c ∧ c < w.heap.size
 none : ∀ j, FW pm ops wt j → L j = false → ρ (s j).fk = none
 pheld : ∀ j, FW pm ops wt j → isP pm j = true → L j = true → Held w0.heap.size ρ (s e).w w (s j).fk (.umap (dn pm ops s L ops.size))
section
variable {e j : Nat} {ρ : Env} {a : Act} {w : World} {o : Oper}
theorem aeg (hc : im ops L) (ho : ops[j]? = some o) (hr : ∀ e ∈ o.after, Region.binds .any e = true → L e.on = true) : im ops (upL L j) := by
 intro i oi hi hL x hx hb
 by_cases h : i = j
 ·subst h
  rw [ho] at hi; cases hi
  have := hr x hx hb
  unfold upL; split <;> first | rfl | exact this
 ·rw [bu L h] at hL
  have := hc i oi hi hL x hx hb
  unfold upL; split <;> first | rfl | exact this
theorem afw (T : Tr pm ih ops nt s val wt obj h0 nx0 nx1) (hn : nt ≤ 512) (hτ : (s 0).τ = τ0) (hc : im ops L) (hcu : im ops (upL L j)) (ho : ops[j]? = some o) (hL : L j = false) {t : Nat} (ht : t ∈ px ops.toList o) :
  ii t (TL ops nt val τ0 L ops.size) = ii t (s j).τ := by
 have hj := (zI.1 ho).1
 refine avv T hn hτ (by omega) ?_ ?_
 ·intro i oi hi hoi hd
  have := (T.drawn.tmp i j oi o t (by omega) hoi ho hd ht).1 hi
  have := d7 hcu this (jt L j)
  rw [bu L (by omega)] at this
  exact this
 ·intro i oi hi hoi hd
  rcases Nat.eq_or_lt_of_le hi with h | h
  ·rw [← h]; exact hL
  ·have := (T.drawn.tmp i j oi o t (by omega) hoi ho hd ht).2 h
   cases hLi : L i with
   | false => rfl
   | true => have := d7 hc this hLi; rw [hL] at this; cases this
theorem amn (T : Tr pm ih ops nt s val wt obj h0 nx0 nx1) (hn : nt ≤ 512) (hτ : (s 0).τ = τ0) (hc : im ops L) (hcu : im ops (upL L j)) (ho : ops[j]? = some o) (hL : L j = false) (x : Operand) (hx : x ∈ o.op.operands) :
  evX x (TL ops nt val τ0 L ops.size) = evX x (s j).τ := by
 cases x with
 | tmp t =>
   refine afw T hn hτ hc hcu ho hL ?_
   unfold px
   exact List.mem_append_left _ (aby (by simpa using hx))
 | const _ => rfl
 | global _ => rfl
 | func _ => rfl
theorem af5 (T : Tr pm ih ops nt s val wt obj h0 nx0 nx1) (hn : nt ≤ 512) (hτ : (s 0).τ = τ0) (hc : im ops L) (hcu : im ops (upL L j)) (ho : ops[j]? = some o) (hL : L j = false) {g : Nat × Bool} (hg : o.guard = some g) :
  l8 g ops.toList (TL ops nt val τ0 L ops.size) = l8 g ops.toList (s j).τ := by
 unfold l8
 cases hd : (nth ops.toList g.1).bind (·.dst) with
 | none => rfl
 | some t =>
   dsimp only
   rw [afw T hn hτ hc hcu ho hL (t := t)]
   unfold px
   rw [hg]
   dsimp only
   rw [hd]
   simp
theorem a0r (T : Tr pm ih ops nt s val wt obj h0 nx0 nx1) (hn : nt ≤ 512) (hc : im ops L) (ho : ops[j]? = some o) (hL : L j = false) (hf : FRel ρ (TL ops nt val τ0 L ops.size) a.tmps) (hsz : a.tmps.size = nt) {v' : Value} (hv : VRel ρ (val j) v') :
  FRel ρ (TL ops nt val τ0 (upL L j) ops.size) (a.put o.dst v').tmps := by
 intro t
 by_cases ht : t < 512
 ·rw [bq6 hn ho hL ht]
  ·cases hd : o.dst with
   | none => rw [if_neg (by simp)]; exact hf t
   | some d =>
     show VRel ρ _ ((a.tmps.setIfInBounds d v').getD t undef)
     rw [ate]
     by_cases e : d = t ∧ d < a.tmps.size
     ·rw [if_pos e, if_pos ⟨by rw [e.1], by rw [← e.1, ← hsz]; exact e.2⟩]; exact hv
     ·rw [if_neg e, if_neg (by rintro ⟨h1, h2⟩; injection h1 with h1; exact e ⟨h1, by rw [h1, hsz]; exact h2⟩)]; exact hf t
  ·intro hd i oi hi hoi hdi
   have hl : t ∈ px ops.toList o := by unfold px; rw [hd]; simp
   have := (T.drawn.tmp i j oi o t (by omega) hoi ho hdi hl).2 hi
   cases hLi : L i with
   | false => rfl
   | true => have := d7 hc this hLi; rw [hL] at this; cases this
 ·rw [ul (by omega)]; simp only [VRel]
theorem IV.quiet (T : Tr pm ih ops nt s val wt obj h0 nx0 nx1) (hn : nt ≤ 512) (I : IV pm ops nt s val wt obj h0 nx0 nx1 τ0 ρ0 w0 a0 L e ρ a w) (ho : ops[j]? = some o) (hL : L j = false) (hcu : im ops (upL L j)) (hE : ¬ E pm ops j) (hF : ¬ FW pm ops wt j) (hM : ¬ MU pm ops j)
  {ρ' : Env} {w' : World} {v' : Value} (hA : Adv ρ (s e).w w ρ' (s e).w w') (hv : VRel ρ' (val j) v') :
  IV pm ops nt s val wt obj h0 nx0 nx1 τ0 ρ0 w0 a0 (upL L j) e ρ' (a.put o.dst v') w' := by
 have same : ∀ k, ρ' k = ρ k := by
  intro k
  rcases hA.rng k with x | x
  ·exact x
  ·omega
 have ne : ∀ i, FW pm ops wt i → i ≠ j := by rintro i hi rfl; exact hF hi
 refine ⟨hcu, I.le, ?_, I.adv.trans hA, I.clean.adv hA, I.nx, a0r T hn I.cl ho hL (I.fr.mono hA.le) I.sz hv, by rw [x9]; exact I.sz, by rw [rz]; exact I.dr, ?_, ?_, ?_, ?_, ?_⟩
 ·intro x hx
  rw [bu L (by rintro rfl; exact hE hx)]
  exact I.ph x hx
 ·intro i hi hp hLi hx
  rw [bu L (ne i hi)] at hLi
  exact (I.held i hi hp hLi hx).adv hA
 ·intro i k hi hk hLi hLk hne
  rw [bu L (ne i hi)] at hLi
  rw [bu L (ne k hk)] at hLk
  rw [same, same]
  exact I.sep i k hi hk hLi hLk hne
 ·intro i hi hLi
  rw [bu L (ne i hi)] at hLi
  obtain ⟨c, h1, h2⟩ := I.lt i hi hLi
  exact ⟨c, by rw [same]; exact h1, Nat.lt_of_lt_of_le h2 hA.size⟩
 ·intro i hi hLi
  rw [bu L (ne i hi)] at hLi
  rw [same]
  exact I.none i hi hLi
 ·intro i hi hp hLi
  rw [bu L (ne i hi)] at hLi
  rw [agf hM]
  exact (I.pheld i hi hp hLi).adv hA
theorem IV.mu (T : Tr pm ih ops nt s val wt obj h0 nx0 nx1) (hn : nt ≤ 512) (I : IV pm ops nt s val wt obj h0 nx0 nx1 τ0 ρ0 w0 a0 L e ρ a w) (ho : ops[j]? = some o) (hL : L j = false) (hcu : im ops (upL L j)) (hE : ¬ E pm ops j) (hF : ¬ FW pm ops wt j)
  {i : Nat} (hi : FW pm ops wt i) (hp : isP pm i = true) (hLi : L i = true) {kv : AV × AV} (hkv : ach pm ops s j = [kv]) {ρ' : Env} {w' : World} {v' : Value}
  (hA : Adv ρ (wset (s i).fk (.umap (dn pm ops s L ops.size)) (s e).w) w ρ' (wset (s i).fk (.umap (dn pm ops s L ops.size ++ [kv])) (wset (s i).fk (.umap (dn pm ops s L ops.size)) (s e).w)) w') (hv : VRel ρ' (val j) v') :
  IV pm ops nt s val wt obj h0 nx0 nx1 τ0 ρ0 w0 a0 (upL L j) e ρ' (a.put o.dst v') w' := by
 have hj := (zI.1 ho).1
 have Hd := I.pheld i hi hp hLi
 obtain ⟨c, c1, c2, c3, c4, c5, c6⟩ := Hd.ex
 have hK : aa (s i).fk (s e).w.h = .none := by
  by_cases h : aa (s i).fk (s e).w.h = .none
  ·exact h
  ·exact absurd c1 (c5 _ h)
 have hs : ∀ l, l ≠ (s i).fk → aa l (s e).w.h = aa l (wset (s i).fk (.umap (dn pm ops s L ops.size ++ [kv])) (wset (s i).fk (.umap (dn pm ops s L ops.size)) (s e).w)).h := by
  intro l hl
  rw [ev, ev]
  simp only [W.h_mk]
  rw [au hl, au hl]
 have hnx : (s e).w.nx = (wset (s i).fk (.umap (dn pm ops s L ops.size ++ [kv])) (wset (s i).fk (.umap (dn pm ops s L ops.size)) (s e).w)).nx := by rw [qn, qn]
 have same : ∀ k, ρ' k = ρ k := by
  intro k
  rcases hA.rng k with x | x
  ·exact x
  ·rw [qn, qn, qn] at x; omega
 have ne : ∀ i, FW pm ops wt i → i ≠ j := by rintro i hi rfl; exact hF hi
 refine ⟨hcu, I.le, ?_, ((ah5 I.adv Hd).trans hA).forget hK hs hnx, ?_, I.nx, a0r T hn I.cl ho hL (I.fr.mono hA.le) I.sz hv, by rw [x9]; exact I.sz, by rw [rz]; exact I.dr, ?_, ?_, ?_, ?_, ?_⟩
 ·intro x hx
  rw [bu L (by rintro rfl; exact hE hx)]
  exact I.ph x hx
 ·intro k hk
  rw [same]
  exact I.clean k hk
 ·intro i' hi' hp' hLi' hx
  rw [bu L (ne i' hi')] at hLi'
  have hne : i ≠ i' := by rintro rfl; rw [hp] at hp'; cases hp'
  exact (((I.held i' hi' hp' hLi' hx).wset (I.sep i i' hi hi' hLi hLi' hne) (by rfl)).adv hA).forget hK hs
 ·intro i' k hi' hk hLi' hLk hne
  rw [bu L (ne i' hi')] at hLi'
  rw [bu L (ne k hk)] at hLk
  rw [same, same]
  exact I.sep i' k hi' hk hLi' hLk hne
 ·intro i' hi' hLi'
  rw [bu L (ne i' hi')] at hLi'
  obtain ⟨c, h1, h2⟩ := I.lt i' hi' hLi'
  exact ⟨c, by rw [same]; exact h1, Nat.lt_of_lt_of_le h2 hA.size⟩
 ·intro i' hi' hLi'
  rw [bu L (ne i' hi')] at hLi'
  rw [same]
  exact I.none i' hi' hLi'
 ·intro i' hi' hp' hLi'
  obtain rfl := ao3 hp hp'
  refine Held.conv (o := .umap (dn pm ops s L ops.size ++ [kv])) (Held.of_rel hA.rel ?_ (by simp) rfl rfl (by rw [same]; exact c1) c2 hK hs) ?_ rfl
  ·rw [ev]; simp only [W.h_mk]; rw [ag]
  ·rintro x ⟨entries, clock, l, h1, h2, h3⟩
   refine ⟨entries, clock, l, h1, h2.trans ?_, h3⟩
   have := bj1 (pm := pm) (ops := ops) (s := s) hL ops.size hj
   rw [hkv] at this
   exact this.symm
theorem IV.float (T : Tr pm ih ops nt s val wt obj h0 nx0 nx1) (hn : nt ≤ 512) (I : IV pm ops nt s val wt obj h0 nx0 nx1 τ0 ρ0 w0 a0 L e ρ a w) (ho : ops[j]? = some o) (hL : L j = false) (hcu : im ops (upL L j)) (hF : FW pm ops wt j)
  {ρ' : Env} {w' : World} {v' : Value} {h : H4} {nx : K} (hw : (s e).w = .mk h nx) (hm : (s j).fk.isMax = false) (hob : obj j ≠ .none ∧ bg (obj j) = Option.none ∧ (obj j).isRo = false) (hpo : isP pm j = true → obj j = .map [])
  (hA : Adv ρ (.mk h (s j).fk) w ρ' (.mk (ce (s j).fk (obj j) h) (s j).fk.succ) w') (hv : VRel ρ' (val j) v') :
  IV pm ops nt s val wt obj h0 nx0 nx1 τ0 ρ0 w0 a0 (upL L j) e ρ' (a.put o.dst v') w' := by
 have hkey := T.key_lt hF
 have hnx := I.nx
 rw [hw] at hnx
 simp only [W.nx_mk] at hnx
 have hadv := I.adv
 rw [hw] at hadv
 obtain ⟨f1, f2, f3, ⟨c, f4, f5, f6⟩, f7⟩ := a6m (N := w0.heap.size) hadv hA hm (I.none j hF hL) (by simpa using hkey.1) (by omega) hob.1 hob.2.1 hob.2.2
 have hE : ¬ E pm ops j := by
  rintro ⟨o', ho', hc'⟩
  obtain ⟨_, o'', ho'', hc''⟩ := hF
  rw [ho'] at ho''; cases ho''; rw [hc'] at hc''; cases hc''
 have kne : ∀ i, FW pm ops wt i → i ≠ j → (s i).fk ≠ (s j).fk := fun i hi hne he => hne (T.key_inj hi hF he)
 refine ⟨hcu, I.le, ?_, by rw [hw]; exact f1, ?_, I.nx, a0r T hn I.cl ho hL (I.fr.mono hA.le) I.sz hv, by rw [x9]; exact I.sz, by rw [rz]; exact I.dr, ?_, ?_, ?_, ?_, ?_⟩
 ·intro x hx
  rw [bu L (by rintro rfl; exact hE hx)]
  exact I.ph x hx
 ·intro k hk
  have hk' := hk
  rw [hw] at hk'
  simp only [W.nx_mk] at hk'
  rw [f3 k (by rintro rfl; omega)]
  exact I.clean k hk
 ·intro i hi hp hLi hx
  rw [hw]
  by_cases h : i = j
  ·subst h; exact f2
  ·rw [bu L h] at hLi
   have := I.held i hi hp hLi hx
   rw [hw] at this
   exact (f7 _ _ this).1
 ·intro i k hi hk hLi hLk hne
  have one : ∀ i, FW pm ops wt i → i ≠ j → upL L j i = true → ρ' (s i).fk ≠ ρ' (s j).fk := by
   intro i hi h hLi
   rw [bu L h] at hLi
   obtain ⟨c', h1, h2⟩ := I.lt i hi hLi
   rw [f3 _ (kne i hi h), h1, f4]
   intro he; injection he with he; omega
  by_cases h : i = j
  ·subst h; exact (one k hk (Ne.symm hne) hLk).symm
  ·by_cases h' : k = j
   ·subst h'; exact one i hi h hLi
   ·rw [bu L h] at hLi
    rw [bu L h'] at hLk
    rw [f3 _ (kne i hi h), f3 _ (kne k hk h')]
    exact I.sep i k hi hk hLi hLk hne
 ·intro i hi hLi
  by_cases h : i = j
  ·subst h; exact ⟨c, f4, f6⟩
  ·rw [bu L h] at hLi
   obtain ⟨c', h1, h2⟩ := I.lt i hi hLi
   exact ⟨c', by rw [f3 _ (kne i hi h)]; exact h1, Nat.lt_of_lt_of_le h2 hA.size⟩
 ·intro i hi hLi
  by_cases h : i = j
  ·subst h; rw [jt] at hLi; cases hLi
  ·rw [bu L h] at hLi
   rw [f3 _ (kne i hi h)]
   exact I.none i hi hLi
 ·intro i hi hp hLi
  rw [hw]
  have hM : ¬ MU pm ops j := by
   rintro ⟨o', ho', hc'⟩
   obtain ⟨_, o'', ho'', hc''⟩ := hF
   rw [ho'] at ho''; cases ho''; rw [hc'] at hc''; cases hc''
  rw [agf hM]
  by_cases h : i = j
  ·subst h
   rw [T.dn_nil I.cl hp hL]
   rw [hpo hp] at f2
   refine f2.conv ?_ rfl
   rintro x ⟨entries, clock, h1, h2⟩
   exact ⟨entries, clock, [], h1, List.Perm.refl _, h2⟩
  ·rw [bu L h] at hLi
   have := I.pheld i hi hp hLi
   rw [hw] at this
   exact (f7 _ _ this).1
theorem IV.before (T : Tr pm ih ops nt s val wt obj h0 nx0 nx1) (I : IV pm ops nt s val wt obj h0 nx0 nx1 τ0 ρ0 w0 a0 L e ρ a w) (hL : L j = false) (hcu : im ops (upL L j)) (hE : E pm ops j) :
  e ≤ j ∧ (s j).w = (s e).w ∧ Adv ρ0 (.mk h0 nx0) w0 ρ (dz (dh ops j) (s j).pend (s j).w) w ∧ Clean ρ (dz (dh ops j) (s j).pend (s j).w) ∧
  (∀ i, FW pm ops wt i → isP pm i = false → L i = true → (∀ x, x < j + 1 → E pm ops x → db ops i x = false) → Held w0.heap.size ρ (dz (dh ops j) (s j).pend (s j).w) w (s i).fk (obj i)) ∧
  ∀ i, FW pm ops wt i → isP pm i = true → L i = true → Held w0.heap.size ρ (dz (dh ops j) (s j).pend (s j).w) w (s i).fk (.umap (dn pm ops s L ops.size)) := by
 have hj := hE.size
 have he : e ≤ j := by
  rcases Nat.lt_or_ge j e with h | h
  ·have := (I.ph j hE).2 h; rw [hL] at this; cases this
  ·exact h
 have hw : (s j).w = (s e).w := by
  refine T.w_const j he (by omega) fun x h1 h2 hx => ?_
  obtain ⟨ox, hox, hcx⟩ := hx
  obtain ⟨oj, hoj, hcj⟩ := hE
  have := d7 hcu (T.drawn.eff x j ox oj h2 hox hoj hcx hcj) (jt L j)
  rw [bu L (by omega)] at this
  have := (I.ph x ⟨ox, hox, hcx⟩).1 this
  omega
 obtain ⟨p1, p2⟩ := T.pend j (by omega)
 have inL : ∀ p ∈ (s j).pend, tb (dh ops j) p.i = true → L p.i = true := by
  intro p hp hb
  have := d7 hcu (i := p.i) (j := j) hb (jt L j)
  rw [bu L (by have := (p1 p hp).1; omega)] at this
  exact this
 have ok := ar6 (dh ops j) (s j).pend (ρ := ρ) (a := (s j).w) (w := w) (ρ0 := ρ0) (a0 := .mk h0 nx0) (w0 := w0) (fun p hp hb => ?_) ?_ (by rw [hw]; exact I.adv)
 ·refine ⟨he, hw, ok.1, ?_, ?_, ?_⟩
  ·intro k hk
   rw [xw, hw] at hk
   exact I.clean k hk
  ·intro i hi hpi hLi hx
   refine ok.2 _ _ (by rw [hw]; exact I.held i hi hpi hLi fun x h1 h2 => hx x (by omega) h2) fun p hp hb => ?_
   obtain ⟨q1, q2, q3, q4, q5, q6⟩ := p1 p hp
   rw [q4]
   refine I.sep p.i i q2 hi (inL p hp hb) hLi ?_
   rintro rfl
   have := hx j (by omega) hE
   unfold db at this
   rw [hb] at this; cases this
  ·intro i hi hpi hLi
   refine ok.2 _ _ (by rw [hw]; exact I.pheld i hi hpi hLi) fun p hp hb => ?_
   obtain ⟨q1, q2, q3, q4, q5, q6⟩ := p1 p hp
   rw [q4]
   refine I.sep p.i i q2 hi (inL p hp hb) hLi ?_
   rintro rfl
   rw [hpi] at q6; cases q6
 ·obtain ⟨q1, q2, q3, q4, q5, q6⟩ := p1 p hp
  rw [q4, q5, hw]
  exact I.held p.i q2 q6 (inL p hp hb) fun x h1 h2 => q3 x (by omega) h2
 ·have : ∀ (l : List PF), (∀ p ∈ l, p ∈ (s j).pend) → l.Pairwise (fun p q => q.i < p.i) → l.Pairwise (fun p q => tb (dh ops j) p.i = true → tb (dh ops j) q.i = true → ρ p.k ≠ ρ q.k) := by
   intro l hl hp
   refine List.Pairwise.imp_of_mem (fun {p q} hp hq hlt hb hb' => ?_) hp
   obtain ⟨_, q2, _, q4, _⟩ := p1 p (hl p hp)
   obtain ⟨_, r2, _, r4, _⟩ := p1 q (hl q hq)
   rw [q4, r4]
   exact I.sep p.i q.i q2 r2 (inL p (hl p hp) hb) (inL q (hl q hq) hb') (by omega)
  exact this _ (fun p hp => hp) p2
theorem IV.effect (T : Tr pm ih ops nt s val wt obj h0 nx0 nx1) (hn : nt ≤ 512) (I : IV pm ops nt s val wt obj h0 nx0 nx1 τ0 ρ0 w0 a0 L e ρ a w) (ho : ops[j]? = some o) (hL : L j = false) (hcu : im ops (upL L j)) (hE : E pm ops j)
  {ρ' : Env} {w' : World} {v' : Value} (hA : Adv ρ (dz (dh ops j) (s j).pend (s j).w) w ρ' (s (j + 1)).w w') (hv : VRel ρ' (val j) v') :
  IV pm ops nt s val wt obj h0 nx0 nx1 τ0 ρ0 w0 a0 (upL L j) (j + 1) ρ' (a.put o.dst v') w' := by
 have hj := hE.size
 obtain ⟨b1, b2, b3, b4, b5, b6⟩ := I.before T hL hcu hE
 have hF : ¬ FW pm ops wt j := by
  rintro ⟨_, o', ho', hc'⟩
  obtain ⟨o'', ho'', hc''⟩ := hE
  rw [ho'] at ho''; cases ho''; rw [hc'] at hc''; cases hc''
 have ne : ∀ i, FW pm ops wt i → i ≠ j := by rintro i hi rfl; exact hF hi
 have hnx := hA.nx
 rw [xw, b2] at hnx
 have hn1 := I.nx
 have same : ∀ i, FW pm ops wt i → ρ' (s i).fk = ρ (s i).fk := by
  intro i hi
  have := T.key_lt hi
  rcases hA.rng (s i).fk with x | x
  ·exact x
  ·rw [xw, b2] at x; omega
 refine ⟨hcu, by omega, ?_, b3.trans hA, b4.adv hA, by omega, a0r T hn I.cl ho hL (I.fr.mono hA.le) I.sz hv, by rw [x9]; exact I.sz, by rw [rz]; exact I.dr, ?_, ?_, ?_, ?_, ?_⟩
 ·intro x hx
  by_cases h : x = j
  ·subst h; rw [jt]; simp
  ·rw [bu L h, I.ph x hx]
   constructor
   ·intro h1; omega
   ·intro h1
    obtain ⟨ox, hox, hcx⟩ := hx
    obtain ⟨oj, hoj, hcj⟩ := hE
    have := d7 hcu (T.drawn.eff x j ox oj (by omega) hox hoj hcx hcj) (jt L j)
    rw [bu L h] at this
    exact (I.ph x ⟨ox, hox, hcx⟩).1 this
 ·intro i hi hp hLi hx
  rw [bu L (ne i hi)] at hLi
  exact (b5 i hi hp hLi hx).adv hA
 ·intro i k hi hk hLi hLk hne
  rw [bu L (ne i hi)] at hLi
  rw [bu L (ne k hk)] at hLk
  rw [same i hi, same k hk]
  exact I.sep i k hi hk hLi hLk hne
 ·intro i hi hLi
  rw [bu L (ne i hi)] at hLi
  obtain ⟨c, h1, h2⟩ := I.lt i hi hLi
  exact ⟨c, by rw [same i hi]; exact h1, Nat.lt_of_lt_of_le h2 hA.size⟩
 ·intro i hi hLi
  rw [bu L (ne i hi)] at hLi
  rw [same i hi]
  exact I.none i hi hLi
 ·intro i hi hp hLi
  rw [bu L (ne i hi)] at hLi
  have hM : ¬ MU pm ops j := by
   rintro ⟨o', ho', hc'⟩
   obtain ⟨o'', ho'', hc''⟩ := hE
   rw [ho'] at ho''; cases ho''; rw [hc'] at hc''; cases hc''
  rw [agf hM]
  exact (b6 i hi hp hLi).adv hA
end
end
end Go.Ev
set_option linter.all false
namespace Go.Ev
variable [Gv]
section
variable {pm : PM} {ih : Ih} {ops : Array Oper} {nt fn : Nat} {s : Nat → DS} {val : Nat → AV} {wt : Nat → Bool} {obj : Nat → AObj} {h0 : H4} {nx0 nx1 : K} {τ0 : F} {L : Nat → Bool} {ρ0 : Env} {w0 : World} {a0 : Act}
variable {e j : Nat} {ρ : Env} {a : Act} {w : World} {o : Oper} {d : Bool} {ro : Option Nat} {cs : List Frame} {Q : Exit → Act → List Frame → World → Prop}
theorem mb {o : Op} {τ : F} {aw : W} (h : (∃ v a, zOp o τ aw = .val v a) ∨ (∃ f vs a, zOp o τ aw = .call f vs a)) (c : Call) : o ≠ .defer c := by
 rintro rfl
 have : zOp (.defer c) τ aw = mj (o5 c τ aw) := by
  rw [aat (fun _ => rfl)]; rfl
 rw [this] at h
 unfold o5 at h
 split at h
 ·split at h <;> simp [mj] at h
 ·simp [mj] at h
theorem aml (hs : Sound ih) (T : Tr pm ih ops nt s val wt obj h0 nx0 nx1) (hn : nt ≤ 512) (hτ : (s 0).τ = τ0) (hg0 : GRel ρ0) (I : IV pm ops nt s val wt obj h0 nx0 nx1 τ0 ρ0 w0 a0 L e ρ a w) (ho : ops[j]? = some o) (hL : L j = false)
  (hr : ∀ e ∈ o.after, Region.binds .any e = true → L e.on = true) {opr : Array Oper} (ho' : opr[j]? = some o) (hy : Region.wanted o (yielded opr a.tmps) = Region.wanted o (yielded ops a.tmps)) {rest : List Nat}
  (pan : ∀ f vs W1 ch W2, wt j = true → cls pm o.op = .ef → zOp o.op (s j).τ (dz (dh ops j) (s j).pend (s j).w) = .call f vs W1 → enter ih f vs W1 = .pan ch W2 →
    ∀ ρ' w' ch', ChRel ρ' ch ch' → Adv ρ0 (.mk h0 nx0) w0 ρ' W2 w' → Clean ρ' W2 → ρ.le ρ' → Q (.panic ch') a cs w')
  (next : ∀ e' ρ' a' w', IV pm ops nt s val wt obj h0 nx0 nx1 τ0 ρ0 w0 a0 (upL L j) e' ρ' a' w' → ld d ro PP opr Q rest a' cs w') : ld d ro PP opr Q (j :: rest) a cs w := by
 have hcu := aeg I.cl ho hr
 have he : ∀ x, VRel ρ (evX x (TL ops nt val τ0 L ops.size)) (a.eval x) := by
  intro x
  have := aom (fr := (default : Frame).at a []) (hg0.mono I.adv.le) (τ := TL ops nt val τ0 L ops.size) I.fr x
  rw [Frame.eval_at] at this
  exact this
 have hf := T.fact j o ho
 unfold gb at hf
 obtain ⟨f1, f2, f3, f4⟩ := hf
 have hwant : Region.wanted o (yielded ops a.tmps) = wt j := by
  cases hg : o.guard with
  | none => rw [hg] at f2; rw [f2]; unfold Region.wanted; rw [hg]
  | some g =>
    rw [hg] at f2
    exact alf hg I.fr (by rw [af5 T hn hτ I.cl hcu ho hL hg]; exact f2)
 have notE : cls pm o.op ≠ .ef → ¬ E pm ops j := by rintro hne ⟨o', ho', hc'⟩; rw [ho] at ho'; cases ho'; exact hne hc'
 have notF : cls pm o.op ≠ .fl → ¬ FW pm ops wt j := by rintro hne ⟨_, o', ho', hc'⟩; rw [ho] at ho'; cases ho'; exact hne hc'
 have notM : cls pm o.op ≠ .mu → ¬ MU pm ops j := by rintro hne ⟨o', ho', hc'⟩; rw [ho] at ho'; cases ho'; exact hne hc'
 simp only [ld, ho']
 rw [hy, hwant]
 cases hb : wt j with
 | false =>
   rw [if_neg (by simp)]
   have hv : ∀ ρ, VRel ρ (val j) undef := by rw [f3 hb]; exact mp
   have hF : ¬ FW pm ops wt j := by rintro ⟨h, _⟩; rw [hb] at h; cases h
   cases hc : cls pm o.op with
   | ef =>
     rw [hc] at f4
     have hE : E pm ops j := ⟨o, ho, hc⟩
     refine next _ _ _ _ (I.effect T hn ho hL hcu hE (ρ' := ρ) (w' := w) ?_ (hv ρ))
     rw [f4.2.2.2.2.2.1 hb]
     exact Adv.refl (I.before T hL hcu hE).2.2.1.rel
   | mu => rw [hc] at f4; have := f4.2.2.2.2.2.1; rw [hb] at this; cases this
   | pu => exact next _ _ _ _ (I.quiet T hn ho hL hcu (notE (by rw [hc]; simp)) hF (notM (by rw [hc]; simp)) (Adv.refl I.adv.rel) (hv ρ))
   | rd => exact next _ _ _ _ (I.quiet T hn ho hL hcu (notE (by rw [hc]; simp)) hF (notM (by rw [hc]; simp)) (Adv.refl I.adv.rel) (hv ρ))
   | fl => exact next _ _ _ _ (I.quiet T hn ho hL hcu (notE (by rw [hc]; simp)) hF (notM (by rw [hc]; simp)) (Adv.refl I.adv.rel) (hv ρ))
 | true =>
   rw [if_pos rfl]
   have hcong : ∀ a, zOp o.op (TL ops nt val τ0 L ops.size) a = zOp o.op (s j).τ a := fun a => an5 o.op (amn T hn hτ I.cl hcu ho hL)
   have quiet : zOp o.op (s j).τ (s e).w = .val (val j) (s e).w → ¬ E pm ops j → ¬ FW pm ops wt j → ¬ MU pm ops j →
     afk d ro PP o a cs (ld d ro PP opr Q rest) Q ((o.semAt ro a.eval).run PP w) := by
    intro hev hE hF hM
    have hN := alx (e := a.eval) I.adv.rel he o
    rw [hcong, hev] at hN
    obtain ⟨ρ', w', hA, hrun⟩ := hN (I.clean.fresh _)
    rw [Oper.semAt_eq ro a.eval o (mb (.inl ⟨_, _, hev⟩))]
    rcases hrun with ⟨v', hrun, hv⟩ | ⟨hrun, hv⟩
    ·rw [hrun]; exact next _ _ _ _ (I.quiet T hn ho hL hcu hE hF hM hA hv)
    ·rw [hrun]; exact next _ _ _ _ (I.quiet T hn ho hL hcu hE hF hM hA (by rw [hv]; exact mp ρ'))
   cases hc : cls pm o.op with
   | pu =>
     rw [hc] at f4
     exact quiet (f4.2.2.2.2.2.2 hb _) (notE (by rw [hc]; simp)) (notF (by rw [hc]; simp)) (notM (by rw [hc]; simp))
   | rd =>
     refine quiet (T.read ho hc hb I.le ?_ ?_) (notE (by rw [hc]; simp)) (notF (by rw [hc]; simp)) (notM (by rw [hc]; simp))
     ·intro x hx hbf
      have := d7 hcu hbf (jt L j)
      rw [bu L (by rintro rfl; exact notE (by rw [hc]; simp) hx)] at this
      exact (I.ph x hx).1 this
     ·intro x hx hlt
      cases hbf : db ops j x with
      | false => rfl
      | true => have := d7 I.cl hbf ((I.ph x hx).2 hlt); rw [hL] at this; cases this
   | fl =>
     rw [hc] at f4
     obtain ⟨_, _, _, _, f5⟩ := f4
     obtain ⟨_, _, hpo, hm, hob, hev⟩ := f5 hb
     have hF : FW pm ops wt j := ⟨hb, o, ho, hc⟩
     cases hw : (s e).w with
     | mk h nx =>
       have hrel := I.adv.rel
       rw [hw] at hrel
       have hN := alx (a := .mk h (s j).fk) (e := a.eval) hrel.rekeyed he o
       rw [hcong, hev] at hN
       obtain ⟨ρ', w', hA, hrun⟩ := hN (by
        intro k h1 h2
        simp only [W.nx_mk] at h1 h2
        rw [K.succ_num hm] at h2
        rw [K.num_inj (show k.num = (s j).fk.num by omega)]
        exact I.none j hF hL)
       rw [Oper.semAt_eq ro a.eval o (mb (.inl ⟨_, _, hev h⟩))]
       rcases hrun with ⟨v', hrun, hv⟩ | ⟨hrun, hv⟩
       ·rw [hrun]; exact next _ _ _ _ (I.float T hn ho hL hcu hF hw hm hob (fun q => (hpo q).2.2) hA hv)
       ·rw [hrun]; exact next _ _ _ _ (I.float T hn ho hL hcu hF hw hm hob (fun q => (hpo q).2.2) hA (by rw [hv]; exact mp ρ'))
   | mu =>
     rw [hc] at f4
     obtain ⟨m1, m2, m3, m4, m5, m6, m7, t, m, x, y, k, es, hop, hpv, hpv', hk1, hk2, hk3⟩ := f4
     have hM : MU pm ops j := ⟨o, ho, hc⟩
     have hjl := (zI.1 ho).1
     rcases T.pv j (by omega) with ⟨q, _⟩ | ⟨i, hp, hij, hi, q⟩
     ·rw [q] at hpv; cases hpv
     ·rw [q] at hpv
      injection hpv with e1 e2
      subst e1
      have hLi : L i = true := by
       have := T.mu_done hcu hp hM (jt L j)
       rw [bu L (by omega)] at this
       exact this
      have hadv := ah5 I.adv (I.pheld i hi hp hLi)
      have hkv : ach pm ops s j = [(evX x (s j).τ, evX y (s j).τ)] := by rw [a0n ho hc]; unfold bhw; rw [hop]
      have hnone : afx (evX x (s j).τ) (dn pm ops s L ops.size) = true := by
       refine auq fun f hf => ?_
       obtain ⟨z, z1, z2, z3⟩ := aix _ hf
       have hme : (evX x (s j).τ, evX y (s j).τ) ∈ ach pm ops s j := by rw [hkv]; simp
       rcases Nat.lt_trichotomy z j with h | h | h
       ·exact (asa (T.far hp hi h hjl z3 hme)).2
       ·subst h; rw [hL] at z2; cases z2
       ·exact (asa (T.far hp hi h z1 hme z3)).1
      have hev : zOp o.op (s j).τ (wset (s i).fk (.umap (dn pm ops s L ops.size)) (s e).w) =
        .val ip (wset (s i).fk (.umap (dn pm ops s L ops.size ++ [(evX x (s j).τ, evX y (s j).τ)])) (wset (s i).fk (.umap (dn pm ops s L ops.size)) (s e).w)) := by
       rw [hop, aat (fun _ => rfl)]
       show mj (uk t (evX m (s j).τ) (evX x (s j).τ) (evX y (s j).τ) _) = _
       have hg : cy (s i).fk (wset (s i).fk (.umap (dn pm ops s L ops.size)) (s e).w) = .umap (dn pm ops s L ops.size) := by
        rw [be, ev]; simp only [W.h_mk]; rw [ag]
       unfold uk
       rw [hk3, hk1, hk2]
       simp only [Bool.and_self, ac, if_true, hg, hnone]
       rfl
      have hN := alx (e := a.eval) hadv.rel he o
      rw [hcong, hev] at hN
      obtain ⟨ρ', w', hA, hrun⟩ := hN (by
       refine Clean.fresh (ρ := ρ) ?_ _
       intro z hz
       rw [qn] at hz
       exact I.clean z hz)
      rw [Oper.semAt_eq ro a.eval o (mb (.inl ⟨_, _, hev⟩))]
      rcases hrun with ⟨v', hrun, hv⟩ | ⟨hrun, hv⟩
      ·rw [hrun]; exact next _ _ _ _ (I.mu T hn ho hL hcu (notE (by rw [hc]; simp)) (notF (by rw [hc]; simp)) hi hp hLi hkv hA (by rw [m7]; exact hv))
      ·rw [hrun]; exact next _ _ _ _ (I.mu T hn ho hL hcu (notE (by rw [hc]; simp)) (notF (by rw [hc]; simp)) hi hp hLi hkv hA (by rw [m7, hv]; exact mp ρ'))
   | ef =>
     rw [hc] at f4
     obtain ⟨_, _, _, _, _, _, f5⟩ := f4
     have hE : E pm ops j := ⟨o, ho, hc⟩
     obtain ⟨b1, b2, b3, b4, b5, _⟩ := I.before T hL hcu hE
     have hN := alx (e := a.eval) b3.rel he o
     rw [hcong] at hN
     rcases f5 hb with hev | ⟨f, vs, W1, hev, hen⟩ | ⟨f, vs, W1, ch, W2, hev, hen⟩
     ·rw [hev] at hN
      obtain ⟨ρ', w', hA, hrun⟩ := hN (b4.fresh _)
      rw [Oper.semAt_eq ro a.eval o (mb (.inl ⟨_, _, hev⟩))]
      rcases hrun with ⟨v', hrun, hv⟩ | ⟨hrun, hv⟩
      ·rw [hrun]; exact next _ _ _ _ (I.effect T hn ho hL hcu hE hA hv)
      ·rw [hrun]; exact next _ _ _ _ (I.effect T hn ho hL hcu hE hA (by rw [hv]; exact mp ρ'))
     ·rw [hev] at hN
      obtain ⟨ρ1, w1, args, hA, hrun, hv⟩ := hN (b4.fresh _)
      rw [Oper.semAt_eq ro a.eval o (mb (.inr ⟨_, _, _, hev⟩))]
      rw [hrun]
      have hC := ug hs (hg0.mono (b3.trans hA).le) hA.rel (b4.adv hA) hv (by rw [hen]; trivial)
      rw [hen] at hC
      refine Calls.mono hC fun en w2 hp => ?_
      obtain ⟨v', ρ2, rfl, hv', hA2⟩ := hp
      exact next _ _ _ _ (I.effect T hn ho hL hcu hE (hA.trans hA2) hv')
     ·rw [hev] at hN
      obtain ⟨ρ1, w1, args, hA, hrun, hv⟩ := hN (b4.fresh _)
      rw [Oper.semAt_eq ro a.eval o (mb (.inr ⟨_, _, _, hev⟩))]
      rw [hrun]
      have hC := ug hs (hg0.mono (b3.trans hA).le) hA.rel (b4.adv hA) hv (by rw [hen]; trivial)
      rw [hen] at hC
      refine Calls.mono hC fun en w2 hp => ?_
      obtain ⟨ch', ρ2, rfl, hch, hA2⟩ := hp
      exact ⟨by simp, pan f vs W1 ch W2 hb hc hev hen ρ2 w2 ch' hch ((b3.trans hA).trans hA2) ((b4.adv hA).adv hA2) (Env.le_trans hA.le hA2.le)⟩
theorem bah (hs : Sound ih) (T : Tr pm ih ops nt s val wt obj h0 nx0 nx1) (hn : nt ≤ 512) (hτ : (s 0).τ = τ0) (hg0 : GRel ρ0)
  (hno : ∀ j o f vs W1 ch W2, ops[j]? = some o → wt j = true → cls pm o.op = .ef → zOp o.op (s j).τ (dz (dh ops j) (s j).pend (s j).w) = .call f vs W1 → enter ih f vs W1 = .pan ch W2 → False)
  (fin : ∀ L e ρ a w, IV pm ops nt s val wt obj h0 nx0 nx1 τ0 ρ0 w0 a0 L e ρ a w → (∀ j, j < ops.size → L j = true) → Q .normal a cs w) :
  ∀ (fuel t : Nat) (listed : Array Bool) (e : Nat) (ρ : Env) (a : Act) (w : World), listed.size = ops.size → un (j0 listed) ops.size = fuel → IV pm ops nt s val wt obj h0 nx0 nx1 τ0 ρ0 w0 a0 (j0 listed) e ρ a w →
   ld d ro PP ops Q (Region.linearise.go .any ops fuel t listed []) a cs w := by
 intro fuel
 induction fuel with
 | zero =>
   intro t listed e ρ a w hsz hu I
   exact fin _ e ρ a w I (apy _ hu)
 | succ fuel ih =>
   intro t listed e ρ a w hsz hu I
   simp only [Region.linearise.go]
   change ld d ro PP ops Q (match (Region.ready .any ops listed)[t % (Region.ready .any ops listed).length]? with
    | some i => Region.linearise.go .any ops fuel (t / (Region.ready .any ops listed).length) (listed.setIfInBounds i true) [i]
    | none => [].reverse) a cs w
   cases hi : (Region.ready .any ops listed)[t % (Region.ready .any ops listed).length]? with
   | none =>
     have hnil : Region.ready .any ops listed = [] := by
      cases hr : Region.ready .any ops listed with
      | nil => rfl
      | cons x xs =>
        rw [hr] at hi
        have hlt : t % (x :: xs).length < (x :: xs).length := Nat.mod_lt _ (by simp)
        simp at hi
        simp at hlt
        omega
     have hall := anr T.drawn hsz hnil
     rw [bfz _ hall] at hu
     cases hu
   | some i =>
     have hmem := List.mem_of_getElem? hi
     obtain ⟨hL, o, ho, hed⟩ := akt hsz hmem
     have hlt := (zI.1 ho).1
     dsimp only
     rw [linearise_go_acc, List.reverse_singleton, List.singleton_append]
     refine aml hs T hn hτ hg0 I ho hL hed ho rfl (fun f vs W1 ch W2 h1 h2 h3 h4 => (hno i o f vs W1 ch W2 ho h1 h2 h3 h4).elim) fun e' ρ' a' w' I' => ?_
     have ce := anb (listed := listed) (j := i) (by omega)
     refine ih _ (listed.setIfInBounds i true) e' ρ' a' w' (by rw [Array.size_setIfInBounds]; exact hsz) ?_ (by rw [ce]; exact I')
     rw [ce]
     have := bf0 hL ops.size hlt
     omega
theorem bai (hs : Sound ih) (T : Tr pm ih ops nt s val wt obj h0 nx0 nx1) (hn : nt ≤ 512) (hτ : (s 0).τ = τ0) (hg0 : GRel ρ0) {opr : Array Oper} (hd : Drawn pm opr) {p : Nat} (hp : ops.size = opr.size) (hle : p < opr.size) (hpp : db opr p p = false)
  (hpre : ∀ i, db opr p i = false → opr[i]? = ops[i]?) (hy : ∀ i o tmps, db opr p i = false → opr[i]? = some o → Region.wanted o (yielded opr tmps) = Region.wanted o (yielded ops tmps))
  (hno : ∀ j o f vs W1 ch W2, j ≠ p → db opr p j = false → ops[j]? = some o → wt j = true → cls pm o.op = .ef → zOp o.op (s j).τ (dz (dh ops j) (s j).pend (s j).w) = .call f vs W1 → enter ih f vs W1 = .pan ch W2 → False)
  {op : Oper} (hop : ops[p]? = some op) (hwp : wt p = true) (hcp : cls pm op.op = .ef) {ch : List PE} {W2 : W} {f : FuncId} {vs : List AV} {W1 : W} (hev : zOp op.op (s p).τ (dz (dh ops p) (s p).pend (s p).w) = .call f vs W1) (hen : enter ih f vs W1 = .pan ch W2)
  (fin : ∀ L e ρ a w ρ' w' ch', IV pm ops nt s val wt obj h0 nx0 nx1 τ0 ρ0 w0 a0 L e ρ a w → ChRel ρ' ch ch' → Adv ρ0 (.mk h0 nx0) w0 ρ' W2 w' → Clean ρ' W2 → ρ.le ρ' → Q (.panic ch') a cs w') :
  ∀ (fuel t : Nat) (listed : Array Bool) (e : Nat) (ρ : Env) (a : Act) (w : World), listed.size = opr.size → un (j0 listed) opr.size = fuel → (∀ i, i = p ∨ db opr p i = true → j0 listed i = false) → im opr (j0 listed) → IV pm ops nt s val wt obj h0 nx0 nx1 τ0 ρ0 w0 a0 (j0 listed) e ρ a w →
   ld d ro PP opr Q (Region.linearise.go .any opr fuel t listed []) a cs w := by
 intro fuel
 induction fuel with
 | zero =>
   intro t listed e ρ a w hsz hu hf hcl I
   have := apy _ hu p hle
   rw [hf p (.inl rfl)] at this
   cases this
 | succ fuel ih' =>
   intro t listed e ρ a w hsz hu hf hcl I
   simp only [Region.linearise.go]
   change ld d ro PP opr Q (match (Region.ready .any opr listed)[t % (Region.ready .any opr listed).length]? with
    | some i => Region.linearise.go .any opr fuel (t / (Region.ready .any opr listed).length) (listed.setIfInBounds i true) [i]
    | none => [].reverse) a cs w
   cases hi : (Region.ready .any opr listed)[t % (Region.ready .any opr listed).length]? with
   | none =>
     have hnil : Region.ready .any opr listed = [] := by
      cases hr : Region.ready .any opr listed with
      | nil => rfl
      | cons x xs =>
        rw [hr] at hi
        have hlt : t % (x :: xs).length < (x :: xs).length := Nat.mod_lt _ (by simp)
        simp at hi
        simp at hlt
        omega
     have hall := anr hd hsz hnil p hle
     rw [hf p (.inl rfl)] at hall
     cases hall
   | some i =>
     have hmem := List.mem_of_getElem? hi
     obtain ⟨hL, o, ho, hed⟩ := akt hsz hmem
     have hlt := (zI.1 ho).1
     have hcu := aeg (j := i) hcl ho hed
     have hnb : db opr p i = false := by
      cases hb : db opr p i with
      | false => rfl
      | true =>
        exfalso
        have hpi : p ≠ i := by rintro rfl; rw [hpp] at hb; cases hb
        have := d7 hcu hb (jt _ i)
        rw [bu _ hpi, hf p (.inl rfl)] at this
        cases this
     have hoT : ops[i]? = some o := by rw [← hpre i hnb]; exact ho
     dsimp only
     rw [linearise_go_acc, List.reverse_singleton, List.singleton_append]
     by_cases hip : i ≠ p
     ·refine aml hs T hn hτ hg0 I hoT hL hed ho (hy i o _ hnb ho) (fun f vs W1 ch W2 h1 h2 h3 h4 => (hno i o f vs W1 ch W2 hip hnb hoT h1 h2 h3 h4).elim) fun e' ρ' a' w' I' => ?_
      have ce := anb (listed := listed) (j := i) (by omega)
      refine ih' _ (listed.setIfInBounds i true) e' ρ' a' w' (by rw [Array.size_setIfInBounds]; exact hsz) ?_ ?_ (by rw [ce]; exact hcu) (by rw [ce]; exact I')
      ·rw [ce]
       have := bf0 hL opr.size hlt
       omega
      ·intro k hk
       rw [ce, bu _ (by rintro rfl; rcases hk with hk | hk; exact hip hk; rw [hnb] at hk; cases hk)]
       exact hf k hk
     ·have hip : i = p := Classical.byContradiction hip
      subst hip
      rw [hop] at hoT
      cases hoT
      have hcu' := aeg I.cl hop hed
      have hE : E pm ops i := ⟨op, hop, hcp⟩
      have he : ∀ x, VRel ρ (evX x (TL ops nt val τ0 (j0 listed) ops.size)) (a.eval x) := by
       intro x
       have := aom (fr := (default : Frame).at a []) (hg0.mono I.adv.le) (τ := TL ops nt val τ0 (j0 listed) ops.size) I.fr x
       rw [Frame.eval_at] at this
       exact this
      have hfa := T.fact i op hop
      unfold gb at hfa
      obtain ⟨f1, f2, f3, f4⟩ := hfa
      have hwant : Region.wanted op (yielded ops a.tmps) = wt i := by
       cases hg : op.guard with
       | none => rw [hg] at f2; rw [f2]; unfold Region.wanted; rw [hg]
       | some g =>
         rw [hg] at f2
         exact alf hg I.fr (by rw [af5 T hn hτ I.cl hcu' hop hL hg]; exact f2)
      simp only [ld, ho]
      rw [hy i op _ hpp ho, hwant, hwp, if_pos rfl]
      have hcong : ∀ x, zOp op.op (TL ops nt val τ0 (j0 listed) ops.size) x = zOp op.op (s i).τ x := fun x => an5 op.op (amn T hn hτ I.cl hcu' hop hL)
      obtain ⟨b1, b2, b3, b4, b5, _⟩ := I.before T hL hcu' hE
      have hN := alx (e := a.eval) b3.rel he op
      rw [hcong, hev] at hN
      obtain ⟨ρ1, w1, args, hA, hrun, hv⟩ := hN (b4.fresh _)
      rw [Oper.semAt_eq ro a.eval op (mb (.inr ⟨_, _, _, hev⟩))]
      rw [hrun]
      have hC := ug hs (hg0.mono (b3.trans hA).le) hA.rel (b4.adv hA) hv (by rw [hen]; trivial)
      rw [hen] at hC
      refine Calls.mono hC fun en w2 hp => ?_
      obtain ⟨ch', ρ2, rfl, hch, hA2⟩ := hp
      exact ⟨by simp, fin _ e ρ a w ρ2 w2 ch' I hch ((b3.trans hA).trans hA2) ((b4.adv hA).adv hA2) (Env.le_trans hA.le hA2.le)⟩
theorem amh (hn : nt ≤ 512) {t : Nat} (ht : t < 512) : ∀ (l : List Oper) (τ : F), ii t (abf nt l τ) = .top ∨ (ii t (abf nt l τ) = ii t τ ∧ ∀ o ∈ l, ¬ (o.dst = some t ∧ t < nt))
 | [], τ => .inr ⟨rfl, fun _ h => by cases h⟩
 | o :: l, τ => by
   simp only [abf]
   rcases amh hn ht l (rp nt o.dst .top τ) with h | ⟨h1, h2⟩
   ·exact .inl h
   ·rw [ki hn ht] at h1
    by_cases e : o.dst = some t ∧ t < nt
    ·rw [if_pos e] at h1; exact .inl h1
    ·rw [if_neg e] at h1
     refine .inr ⟨h1, fun o' ho' => ?_⟩
     rcases List.mem_cons.1 ho' with q | q
     ·subst q; exact e
     ·exact h2 o' q
theorem a3a (hn : nt ≤ 512) {t : Nat} (ht : t < 512) (h : ∀ (k : Nat) (o : Oper), ops[k]? = some o → ¬ (o.dst = some t ∧ t < nt)) : ∀ k, ii t (TL ops nt val τ0 L k) = ii t τ0
 | 0 => rfl
 | k + 1 => by
   have ih := a3a hn ht h k
   cases hL : L k with
   | false => rw [vz hL]; exact ih
   | true =>
     cases ho : ops[k]? with
     | none => simp only [TL, hL, cond_true, ho]; exact ih
     | some o => rw [abx ho hL, ki hn ht, if_neg (h k o ho)]; exact ih
theorem akw : ∀ (n : Nat) (k k' : K), avd n k = some k' → k'.num = k.num + n
 | 0, k, k', h => by injection h with h; rw [h]; rfl
 | n + 1, k, k', h => by
   simp only [avd, ac] at h
   split at h
   ·cases h
   ·rename_i hm
    have := akw n k.succ k' h
    rw [K.succ_num (by simpa using hm)] at this
    omega
theorem apx (h : ∀ i, L i = false) : ∀ k, TL ops nt val τ0 L k = τ0
 | 0 => rfl
 | k + 1 => by rw [vz (h k)]; exact apx h k
theorem au6 : PP.follows .mixedOrders = true := by kernel_rfl
end
section
variable {ρ : Env} {nt : Nat} {d : Bool} {rk : Option K} {ro : Option Nat} {c₀ : Frame} {cs₀ : List Frame} {τ : F} {ds : List AD} {um : UM} {aw : W} {a : Act} {cs : List Frame} {w : World}
theorem ar7 {h : H4} {nx nx' : K} (hw : WRel ρ (.mk h nx) w) (hn : nx.num ≤ nx'.num) : Adv ρ (.mk h nx) w ρ (.mk h nx') w :=
 ⟨hw.rekeyed, Env.le_refl ρ, fun _ => .inl rfl, hn, zY _, fun _ h => .inl h, fun k _ h e => .inl ⟨k, h, e⟩, fun _ _ _ => rfl, fun _ _ h => ⟨rfl, h⟩, rfl, rfl, rfl⟩
theorem as3 {pm : PM} {ih : Ih} (hs : Sound ih) {ops : Array Oper} {id f : Nat} (hpm : ∀ i d, pm = .mk i d → ∃ o, ops[i]? = some o ∧ o.dst = some d ∧ cls pm o.op = .fl) (h : SRel ρ nt d c₀ cs₀ τ ds um aw a cs w) (hr : (aid pm ops ih (.mk f nt d rk) (.mk τ ds um aw)).ok) :
  WS d ro f PP (.region id ops true) (Post ρ aw w nt d c₀ cs₀ (aid pm ops ih (.mk f nt d rk) (.mk τ ds um aw))) a cs w := by
 obtain ⟨h0, nx0⟩ := aw
 refine alg fun t => ?_
 have hcd : aid pm ops ih (.mk f nt d rk) (.mk τ ds um (.mk h0 nx0)) = bc (abg pm ops) (aiu pm ih ops nt f τ h0 nx0 ds um (avd (qf pm ops.toList) nx0)) (.no 238 f) := rfl
 rw [hcd] at hr ⊢
 cases hok : abg pm ops with
 | false => rw [hok] at hr; exact hr.elim
 | true =>
   rw [hok] at hr
   have hr : (aiu pm ih ops nt f τ h0 nx0 ds um (avd (qf pm ops.toList) nx0)).ok := hr
   show ld d ro PP ops (Post ρ (.mk h0 nx0) w nt d c₀ cs₀ (aiu pm ih ops nt f τ h0 nx0 ds um (avd (qf pm ops.toList) nx0))) _ a cs _
   cases hv : avd (qf pm ops.toList) nx0 with
   | none => rw [hv] at hr; exact hr.elim
   | some nx1 =>
     rw [hv] at hr
     simp only [aiu] at hr ⊢
     cases hd : ais pm ih ops nt f ops.toList 0 (.mk τ (.mk h0 nx1) nx0 [] [] [] .none) with
     | no c g => rw [hd] at hr; exact hr.elim
     | pan ch w2 p sP =>
       rw [hd] at hr
       obtain ⟨s, k, s0, hpk, sP1, hst, op, hopl, hsp⟩ := anz ops.toList 0 _ hd
       have hkp : k = p := by omega
       subst hkp
       have hop : ops[k]? = some op := by simpa using hopl
       have hk := (zI.1 hop).1
       have hst : ∀ j o, j < k → ops[j]? = some o → sv pm ih ops j o nt f (s j) = .ok (s (j + 1)) := by
        intro j o hj ho
        have := hst j o hj (by simpa using ho)
        simpa using this
       obtain ⟨_, hpm0, hfp, hcp, fc, vsc, W1, hev, hen⟩ := avo hsp
       subst hpm0
       have hr : (a0k ih ops (e9 ops k) f nt τ ds um ch w2 k sP).ok := hr
       show ld d ro PP ops (Post ρ (.mk h0 nx0) w nt d c₀ cs₀ (a0k ih ops (e9 ops k) f nt τ ds um ch w2 k sP)) _ a cs _
       unfold a0k at hr ⊢
       cases hpok : beg ops (e9 ops k) k with
       | false => rw [hpok] at hr; exact hr.elim
       | true =>
       rw [hpok] at hr
       have hr : (as1 ops (e9 ops k) f nt τ ds um ch w2 (ais .none ih (e9 ops k) nt f ((e9 ops k).toList.drop (k + 1)) (k + 1) sP)).ok := hr
       show ld d ro PP ops (Post ρ (.mk h0 nx0) w nt d c₀ cs₀ (as1 ops (e9 ops k) f nt τ ds um ch w2 (ais .none ih (e9 ops k) nt f ((e9 ops k).toList.drop (k + 1)) (k + 1) sP))) _ a cs _
       cases htl : ais .none ih (e9 ops k) nt f ((e9 ops k).toList.drop (k + 1)) (k + 1) sP with
       | no c g => rw [htl] at hr; exact hr.elim
       | pan c1 w1 p1 s1 => rw [htl] at hr; exact hr.elim
       | ok sN =>
       rw [htl] at hr
       obtain ⟨s2, s20, s2n, hst2⟩ := bfy _ (k + 1) _ sN htl
       unfold beg at hpok
       obtain ⟨hcut, hpok⟩ := bc_and.1 hpok
       obtain ⟨hnbe, hagr⟩ := bc_and.1 hpok
       have hnb : ∀ j, j ≤ k → db ops k j = false := by
        intro j hj
        have := (ab3 _).1 hnbe j (by show j < k + 1; omega)
        rw [an9] at this
        simpa using this
       have hsz : (e9 ops k).size = ops.size := axv ops k
       have hT : ∀ i, db ops k i = false → ops[i]? = (e9 ops k)[i]? := by
        intro i hi
        rw [ame, hi]
        simp
       have hag : ∀ j, j < ops.size → db ops k j = false → dh ops j = dh (e9 ops k) j ∧ (wy .none (e9 ops k) j = true → wy .none ops j = true) ∧ ∀ o, ops[j]? = some o → ∀ g, o.guard = some g → db ops k g.1 = false := by
        intro j hj hb
        have := (ab3 _).1 hagr j (by rw [aab]; exact hj)
        unfold bkl at this
        rw [hb] at this
        have this : bc (Nat.beq (dh ops j) (dh (e9 ops k) j)) (bc (bc (wy .none (e9 ops k) j) (wy .none ops j) true) (match nth ops.toList j with
         | some o => ajl ops k o
         | none => true) false) false = true := this
        obtain ⟨q1, this⟩ := bc_and.1 this
        obtain ⟨q2, q3⟩ := bc_and.1 this
        refine ⟨zW q1, bc_imp.1 q2, fun o ho g hg => ?_⟩
        rw [tv] at q3
        simp only [Array.getElem?_toList, ho] at q3
        unfold ajl at q3
        rw [hg] at q3
        have q3 : al0 (db ops k g.1) = true := q3
        rw [an9] at q3
        simpa using q3
       have hwn : ∀ j o g τ', j < ops.size → db ops k j = false → ops[j]? = some o → o.guard = some g → l8 g ops.toList τ' = l8 g (e9 ops k).toList τ' := by
        intro j o g τ' hj hb ho hg
        have := (hag j hj hb).2.2 o ho g hg
        unfold l8
        rw [tv, tv]
        simp only [Array.getElem?_toList]
        rw [hT g.1 this]
       have sf : ∃ sf : Nat → DS, (∀ j, j ≤ k → sf j = s j) ∧ ∀ j, k + 1 ≤ j → sf j = s2 j :=
        ⟨fun j => if j ≤ k then s j else s2 j, fun j hj => by simp [hj], fun j hj => by simp [show ¬ j ≤ k by omega]⟩
       obtain ⟨sf, sfl, sfh⟩ := sf
       have hstep2 : ∀ j o, k + 1 ≤ j → (e9 ops k)[j]? = some o → sv .none ih (e9 ops k) j o nt f (sf j) = .ok (sf (j + 1)) := by
        intro j o hj ho
        have := hst2 (j - (k + 1)) o (by rw [List.getElem?_drop, show k + 1 + (j - (k + 1)) = j by omega]; simpa using ho)
        rw [show k + 1 + (j - (k + 1)) = j by omega] at this
        rw [sfh j hj, sfh (j + 1) (by omega)]
        exact this
       have hfx : ∀ j, ∃ x : AV × Bool × AObj, ∀ o, (e9 ops k)[j]? = some o → gb .none ih (e9 ops k) nt j o (sf j) (sf (j + 1)) x.1 x.2.1 x.2.2 ∧ (j = k → x.2.1 = true) := by
        intro j
        cases ho : (e9 ops k)[j]? with
        | none => exact ⟨(.top, true, .none), fun o h => by cases h⟩
        | some o =>
          have hjs : j < ops.size := by have := (zI.1 ho).1; omega
          rcases Nat.lt_trichotomy j k with hlt | heq | hgt
          ·have hb := hnb j (by omega)
           have ho' : ops[j]? = some o := by rw [hT j hb]; exact ho
           obtain ⟨v, b, ob, hf⟩ := afb (hst j o hlt ho')
           refine ⟨(v, b, ob), fun o' h => ?_⟩
           cases h
           refine ⟨?_, fun e => by omega⟩
           rw [sfl j (by omega), sfl (j + 1) (by omega)]
           exact as9 hf (hag j hjs hb).1 (hag j hjs hb).2.1 (fun g hg => hwn j o g _ hjs hb ho' hg)
          ·subst heq
           have hb := hnb j (zY _)
           have ho' : ops[j]? = some o := by rw [hT j hb]; exact ho
           rw [hop] at ho'
           cases ho'
           refine ⟨(.top, true, .none), fun o' h => ?_⟩
           cases h
           refine ⟨?_, fun _ => rfl⟩
           rw [sfl j (zY _), sfh (j + 1) (by omega), s20]
           exact as9 hfp (hag j hjs hb).1 (hag j hjs hb).2.1 (fun g hg => hwn j op g _ hjs hb hop hg)
          ·obtain ⟨v, b, ob, hf⟩ := afb (hstep2 j o (by omega) ho)
           exact ⟨(v, b, ob), fun o' h => by cases h; exact ⟨hf, fun e => by omega⟩⟩
       obtain ⟨x, hx⟩ := Classical.skolem.1 hfx
       have hnum := akw _ _ _ hv
       have sfn : sf ops.size = sN := by
        rw [sfh ops.size (by omega), ← s2n]
        congr 1
        rw [List.length_drop]
        have : (e9 ops k).toList.length = ops.size := by rw [← hsz]; simp
        omega
       have hrec : aaz .none (e9 ops k) (sf ops.size).recs ((ops.size, (sf ops.size).w) :: (sf ops.size).hist) = true ∧ as1 ops (e9 ops k) f nt τ ds um ch w2 (.ok sN) = .p ch (.mk (abf nt ops.toList τ) ds um w2) := by
        rw [sfn]
        obtain ⟨τN, wN, fk, pend, hist, recs, pv⟩ := sN
        simp only [as1] at hr ⊢
        rw [aab] at hr ⊢
        cases hq : aaz .none (e9 ops k) recs ((ops.size, wN) :: hist) with
        | false => rw [hq] at hr; exact hr.elim
        | true => exact ⟨hq, rfl⟩
       have hfl : qf .none (e9 ops k).toList ≤ qf .none ops.toList := by
        show qf .none (mt (ah9 ops) k ops.toList 0) ≤ _
        exact asb _ _ _ _
       have s00 : sf 0 = s 0 := sfl 0 (Nat.zero_le _)
       have T : Tr .none ih (e9 ops k) nt sf (fun j => (x j).1) (fun j => (x j).2.1) (fun j => (x j).2.2) h0 nx0 nx1 :=
        ⟨fun j o ho => (hx j o ho).1, xk hcut, by rw [s00, s0]; rfl, by rw [s00, s0]; rfl, by rw [s00, s0]; rfl, by omega, by rw [s00, s0]; rfl, (fun i d e => by cases e), (fun e => by cases e), by rw [hsz]; exact hrec.1⟩
       rw [hrec.2]
       have hsch : Region.schedule (PP.follows .mixedOrders) ops t = Region.linearise.go .any ops ops.size t (Array.replicate ops.size false) [] := by
        rw [au6]; rfl
       rw [hsch]
       have hall : ∀ i, j0 (Array.replicate ops.size false) i = false := by
        intro i
        unfold j0
        rw [Array.getD_eq_getD_getElem?, Array.getElem?_replicate]
        split <;> rfl
       have hw0 : (sf 0).w = .mk h0 nx1 := T.w0
       have hwd : WRel ρ (.mk h0 nx0) { w with drawn := w.drawn + 1 } := ⟨h.wr.inj, h.wr.dom, h.wr.len, fun k kd g hk => let q := h.wr.gho k kd g hk; ⟨q.root, q.rel, q.lt, q.sep, q.dis⟩⟩
       have hopT : (e9 ops k)[k]? = some op := by rw [← hT k (hnb k (zY _))]; exact hop
       refine bai hs T h.le (τ0 := τ) (by rw [s00, s0]; rfl) (ρ0 := ρ) (w0 := { w with drawn := w.drawn + 1 }) (a0 := a) h.g (xk hok) hsz hk (hnb k (zY _)) hT ?_ ?_ hopT ((hx k op hopT).2 rfl) hcp (by rw [sfl k (zY _), ← (hag k hk (hnb k (zY _))).1]; exact hev) hen ?_ ops.size t _ 0 ρ a _ (by simp) ?_ (fun i _ => hall i) (fun j o _ hj => by rw [hall] at hj; cases hj) ?_
       ·intro i o tmps hi ho
        unfold Region.wanted
        cases hg : o.guard with
        | none => rfl
        | some g =>
          have := (hag i (zI.1 ho).1 hi).2.2 o ho g hg
          obtain ⟨gj, gw⟩ := g
          unfold yielded
          dsimp only
          rw [hT gj this]
       ·intro j o f' vs W1 ch W2 hj hb ho hwt hc h1 h2
        have hfa := (hx j o ho).1.2.1
        rcases Nat.lt_or_ge j k with hlt | hge
        ·have hjs : j < ops.size := by omega
         have ho' : ops[j]? = some o := by rw [hT j hb]; exact ho
         refine ae1 (hst j o hlt ho') hc ?_ (by rw [(hag j hjs hb).1, ← sfl j (by omega)]; exact h1) h2
         rw [sfl j (by omega)] at hfa
         cases hg : o.guard with
         | none => trivial
         | some g => rw [hg] at hfa; dsimp only at hfa ⊢; rw [hwn j o g _ hjs hb ho' hg, hfa, hwt]
        ·refine ae1 (hstep2 j o (by omega) ho) hc ?_ h1 h2
         cases hg : o.guard with
         | none => trivial
         | some g => rw [hg] at hfa; dsimp only at hfa ⊢; rw [hfa, hwt]
       ·intro L e ρ1 a' w1 ρ' w' ch' I hch hA hcl hle
        have hA : Adv ρ (.mk h0 nx0) w ρ' w2 w' := ⟨hA.rel, hA.le, hA.rng, hA.nx, hA.size, hA.own, hA.keep, hA.frame, hA.fts, hA.os, hA.tape, hA.output⟩
        have hfr : FRel ρ' (abf nt ops.toList τ) a'.tmps := by
         intro t
         by_cases ht : t < 512
         ·rcases amh h.le ht ops.toList τ with q | ⟨q1, q2⟩
          ·rw [q]; simp only [VRel]
          ·rw [q1]
           have := (I.fr.mono hle) t
           rw [a3a h.le ht (fun k' o ho => by
            rw [ame] at ho
            cases ho1 : ops[k']? with
            | none => rw [ho1] at ho; cases ho
            | some o1 =>
              rw [ho1] at ho
              simp only [Option.map_some] at ho
              cases hb : db ops k k' with
              | true => rw [hb] at ho; cases ho; rintro ⟨e, _⟩; cases e
              | false => rw [hb] at ho; cases ho; exact q2 _ (List.mem_of_getElem? (by simpa using ho1)))] at this
           exact this
         ·rw [ul (by omega)]; simp only [VRel]
        exact ⟨ch', ρ', rfl, hch, hA, h.g.mono hA.le, hA.rel, hcl, hfr, I.sz, h.le, by rw [I.dr]; exact DRels.mono hA.le _ _ h.dr, h.um.mono hA.le⟩
       ·have : ∀ n, un (j0 (Array.replicate ops.size false)) n = n := by
         intro n
         induction n with
         | zero => rfl
         | succ n ih => simp only [un, ih, hall n, cond_false]
        exact this _
       ·refine ⟨fun j o _ hj => ?_, Nat.zero_le _, fun x _ => ?_, ?_, ?_, ?_, ?_, h.sz, rfl, fun j _ _ hj => ?_, fun i j _ _ hi => ?_, fun j _ hj => ?_, fun j hF _ => ?_, fun j _ _ hj => ?_⟩
        ·rw [hall] at hj; cases hj
        ·rw [hall]; simp
        ·rw [hw0]; exact ar7 hwd (by omega)
        ·rw [hw0]; intro k hk; exact h.cl k (by simp only [W.nx_mk] at hk ⊢; omega)
        ·rw [hw0]; exact zY _
        ·rw [apx hall]; exact h.fr
        ·rw [hall] at hj; cases hj
        ·rw [hall] at hi; cases hi
        ·rw [hall] at hj; cases hj
        ·exact h.cl _ (by simp only [W.nx_mk]; exact (T.key_lt hF).1)
        ·rw [hall] at hj; cases hj
     | ok sN =>
       rw [hd] at hr
       obtain ⟨s, s0, sn, hst⟩ := bfy ops.toList 0 _ sN hd
       have sn : s ops.size = sN := by rw [← sn]; simp
       have hst : ∀ j o, ops[j]? = some o → sv pm ih ops j o nt f (s j) = .ok (s (j + 1)) := by
        intro j o ho
        have := hst j o (by simpa using ho)
        simpa using this
       have hfx : ∀ j, ∃ x : AV × Bool × AObj, ∀ o, ops[j]? = some o → gb pm ih ops nt j o (s j) (s (j + 1)) x.1 x.2.1 x.2.2 := by
        intro j
        cases ho : ops[j]? with
        | none => exact ⟨(.top, true, .none), fun o h => by cases h⟩
        | some o =>
          obtain ⟨v, b, ob, hf⟩ := afb (hst j o ho)
          exact ⟨(v, b, ob), fun o' h => by cases h; exact hf⟩
       obtain ⟨x, hx⟩ := Classical.skolem.1 hfx
       have hnum := akw _ _ _ hv
       have hrec : aaz pm ops (s ops.size).recs ((ops.size, (s ops.size).w) :: (s ops.size).hist) = true ∧ bl3 pm ih ops f nt τ ds um (.ok sN) = .n (.mk (s ops.size).τ ds um (bab (s ops.size).pv (aiq (s ops.size).pend (s ops.size).w))) ∧ be9 (s ops.size).pv = true := by
        rw [sn]
        obtain ⟨τN, wN, fk, pend, hist, recs, pv⟩ := sN
        simp only [bl3] at hr ⊢
        rw [aab] at hr ⊢
        cases hq : aaz pm ops recs ((ops.size, wN) :: hist) with
        | false => rw [hq] at hr; exact hr.elim
        | true =>
          rw [hq] at hr
          cases hq2 : be9 pv with
          | false => rw [hq2] at hr; exact hr.elim
          | true => exact ⟨hq, rfl, hq2⟩
       have T : Tr pm ih ops nt s (fun j => (x j).1) (fun j => (x j).2.1) (fun j => (x j).2.2) h0 nx0 nx1 :=
        ⟨fun j o ho => hx j o ho, xk hok, by rw [s0]; rfl, by rw [s0]; rfl, by rw [s0]; rfl, by omega, by rw [s0]; rfl, hpm, fun _ => hrec.2.2, hrec.1⟩
       rw [hrec.2.1]
       have hsch : Region.schedule (PP.follows .mixedOrders) ops t = Region.linearise.go .any ops ops.size t (Array.replicate ops.size false) [] := by
        rw [au6]; rfl
       rw [hsch]
       have hall : ∀ i, j0 (Array.replicate ops.size false) i = false := by
        intro i
        unfold j0
        rw [Array.getD_eq_getD_getElem?, Array.getElem?_replicate]
        split <;> rfl
       have hw0 : (s 0).w = .mk h0 nx1 := T.w0
       have hwd : WRel ρ (.mk h0 nx0) { w with drawn := w.drawn + 1 } := ⟨h.wr.inj, h.wr.dom, h.wr.len, fun k kd g hk => let q := h.wr.gho k kd g hk; ⟨q.root, q.rel, q.lt, q.sep, q.dis⟩⟩
       have hno : ∀ j o f' vs W1 ch W2, ops[j]? = some o → (x j).2.1 = true → cls pm o.op = .ef → zOp o.op (s j).τ (dz (dh ops j) (s j).pend (s j).w) = .call f' vs W1 → enter ih f' vs W1 = .pan ch W2 → False := by
        intro j o f' vs W1 ch W2 ho hwt hc h1 h2
        have hfa := (hx j o ho).2.1
        refine ae1 (hst j o ho) hc ?_ h1 h2
        cases hg : o.guard with
        | none => trivial
        | some g => rw [hg] at hfa; dsimp only at hfa ⊢; rw [hfa, hwt]
       refine bah hs T h.le (τ0 := τ) (by rw [s0]; rfl) (ρ0 := ρ) (w0 := { w with drawn := w.drawn + 1 }) (a0 := a) h.g hno ?_ ops.size t _ 0 ρ a _ (by simp) ?_ ?_
       ·intro L e ρ' a' w' I hL
        have hwe : (s ops.size).w = (s e).w := by
         refine T.w_const ops.size I.le (zY _) fun x h1 h2 hx => ?_
         have := (I.ph x hx).1 (hL x h2)
         omega
        obtain ⟨p1, p2⟩ := T.pend ops.size (zY _)
        have hAll := (a8p (s ops.size).pend (ρ := ρ') (a := (s ops.size).w) (w := w') (ρ0 := ρ) (a0 := .mk h0 nx0) (w0 := { w with drawn := w.drawn + 1 }) (fun p hp => by
         obtain ⟨q1, q2, q3, q4, q5, q6⟩ := p1 p hp
         rw [q4, q5, hwe]
         exact I.held p.i q2 q6 (hL _ q1) fun x hx hE => q3 x (by have := I.le; omega) hE) (by
         refine List.Pairwise.imp_of_mem (fun {p q} hp hq hlt => ?_) p2
         obtain ⟨q1, q2, _, q4, _⟩ := p1 p hp
         obtain ⟨r1, r2, _, r4, _⟩ := p1 q hq
         rw [q4, r4]
         exact I.sep p.i q.i q2 r2 (hL _ q1) (hL _ r1) (by omega)) (by rw [hwe]; exact I.adv))
        have hA : Adv ρ (.mk h0 nx0) { w with drawn := w.drawn + 1 } ρ' (bab (s ops.size).pv (aiq (s ops.size).pend (s ops.size).w)) w' := by
         rcases T.pv ops.size (zY _) with ⟨q, _⟩ | ⟨i, hpi, hilt, hFi, q⟩
         ·rw [q]; exact hAll.1
         ·rw [q]
          have hH := I.pheld i hFi hpi (hL i hilt)
          rw [aiw (L' := fun _ => true) ops.size fun i hi => hL i hi] at hH
          refine ah5 hAll.1 (hAll.2 _ _ (by rw [hwe]; exact hH) fun p hp => ?_)
          obtain ⟨q1, q2, q3, q4, q5, q6⟩ := p1 p hp
          rw [q4]
          refine I.sep p.i i q2 hFi (hL _ q1) (hL i hilt) ?_
          rintro rfl
          rw [hpi] at q6; cases q6
        have hA : Adv ρ (.mk h0 nx0) w ρ' (bab (s ops.size).pv (aiq (s ops.size).pend (s ops.size).w)) w' := ⟨hA.rel, hA.le, hA.rng, hA.nx, hA.size, hA.own, hA.keep, hA.frame, hA.fts, hA.os, hA.tape, hA.output⟩
        have hfr : FRel ρ' (s ops.size).τ a'.tmps := by
         intro t
         have := I.fr t
         rw [avv T h.le (by rw [s0]; rfl) (zY _) (fun i o hi _ _ => hL i hi) (fun i o hi ho _ => by have := (zI.1 ho).1; omega)] at this
         exact this
        refine ⟨rfl, ρ', hA, h.g.mono hA.le, hA.rel, ?_, hfr, I.sz, h.le, by rw [I.dr]; exact DRels.mono hA.le _ _ h.dr, h.um.mono hA.le⟩
        intro k hk
        have hpn : ∀ (p : PV) (x : W), (bab p x).nx = x.nx := by intro p x; cases p <;> first | rfl | exact qn _ _ _
        rw [hpn, bd9, hwe] at hk
        exact I.clean k hk
       ·have : ∀ n, un (j0 (Array.replicate ops.size false)) n = n := by
         intro n
         induction n with
         | zero => rfl
         | succ n ih => simp only [un, ih, hall n, cond_false]
        exact this _
       ·refine ⟨fun j o _ hj => ?_, Nat.zero_le _, fun x _ => ?_, ?_, ?_, ?_, ?_, h.sz, rfl, fun j _ _ hj => ?_, fun i j _ _ hi => ?_, fun j _ hj => ?_, fun j hF _ => ?_, fun j _ _ hj => ?_⟩
        ·rw [hall] at hj; cases hj
        ·rw [hall]; simp
        ·rw [hw0]; exact ar7 hwd (by omega)
        ·rw [hw0]; intro k hk; exact h.cl k (by simp only [W.nx_mk] at hk ⊢; omega)
        ·rw [hw0]; exact zY _
        ·rw [apx hall]; exact h.fr
        ·rw [hall] at hj; cases hj
        ·rw [hall] at hi; cases hi
        ·rw [hall] at hj; cases hj
        ·exact h.cl _ (by simp only [W.nx_mk]; exact (T.key_lt hF).1)
        ·rw [hall] at hj; cases hj
theorem bhh {ih : Ih} (hs : Sound ih) {ops : Array Oper} {id f : Nat} (h : SRel ρ nt d c₀ cs₀ τ ds um aw a cs w) (hr : (a0e id ops ih (.mk f nt d rk) (.mk τ ds um aw)).ok) :
  WS d ro f PP (.region id ops true) (Post ρ aw w nt d c₀ cs₀ (a0e id ops ih (.mk f nt d rk) (.mk τ ds um aw))) a cs w := by
 unfold a0e at hr ⊢
 rw [ac] at hr ⊢
 split at hr
 ·rename_i hd
  rw [if_pos hd]
  exact as3 hs (fun i d e => by cases e) h hr
 ·rename_i hd
  rw [if_neg hd]
  refine as3 hs (fun i d e => ?_) h hr
  obtain ⟨_, o, h1, h2, h3⟩ := ann _ _ _ _ e
  refine ⟨o, by simpa using h1, h2, ?_⟩
  rw [e]
  show bgt d o.op = .fl
  cases hop : o.op <;> rw [hop] at h3 <;> first | (cases h3; done) | rfl
end
end Go.Ev
