import Derived.Test.YtdeddgiacdjjdaaGreatDoorEvCe
import Derived.Orders
set_option linter.all false
namespace Go.Ev
variable [Gv]
section
variable {τ τ' : F} {a : W}
theorem m9 {l : List Operand} (h : ∀ x ∈ l, evX x τ = evX x τ') : qi l τ = qi l τ' := List.map_congr_left h
theorem uo {l : List (Nat × Operand)} (h : ∀ x ∈ l.map (·.2), evX x τ = evX x τ') : mc l τ = mc l τ' :=
 List.map_congr_left fun p hp => by rw [h p.2 (List.mem_map.2 ⟨p, hp, rfl⟩)]
theorem af6 {c : Call} (h : ∀ x ∈ c.operands, evX x τ = evX x τ') : rt c τ a = rt c τ' a := by
 have hx : qi c.args.toList τ = qi c.args.toList τ' := m9 fun x hx => h x (by simp only [Call.operands, Array.mem_append]; right; simpa using hx)
 unfold rt
 rw [hx]
 cases hc : c.callee with
 | value f => dsimp only; rw [h f (by simp [Call.operands, hc])]
 | invoke r m => dsimp only; rw [h r (by simp [Call.operands, hc])]
 | builtin b => rfl
theorem ad3 {c : Call} (h : ∀ x ∈ c.operands, evX x τ = evX x τ') : lj c τ a = lj c τ' a := by
 have hx : qi c.args.toList τ = qi c.args.toList τ' := m9 fun x hx => h x (by simp only [Call.operands, Array.mem_append]; right; simpa using hx)
 unfold lj
 rw [hx]
 cases hc : c.callee with
 | value f => dsimp only; rw [h f (by simp [Call.operands, hc])]
 | invoke r m => rfl
 | builtin b => rfl
theorem ak9 (op : Op) (h : ∀ x ∈ op.operands, evX x τ = evX x τ') : x9 op τ a = x9 op τ' a := by
 cases op <;> simp only [Op.operands] at h <;> dsimp only [x9]
 case build t ps => rw [uo (fun x hx => h x (by simpa using hx))]
 case buildSlice t n ps => rw [uo (fun x hx => h x (by simpa using hx))]
 case makeFunc fn f c => rw [m9 (l := f.toList) (fun x hx => h x (by simp; left; simpa using hx)), m9 (l := c.toList) (fun x hx => h x (by simp; right; simpa using hx))]
 case makeMap t r => cases r with
  | none => rfl
  | some y => simp only [Option.map_some]; rw [h y (by simp)]
 case slice t x lo hi mx => cases lo <;> cases hi <;> cases mx <;> simp_all
 case call c => exact af6 h
 case defer c => exact ad3 h
 all_goals (first | rfl | (simp_all; done))
theorem akn {c : Call} {n : Nat} (h : ∀ x ∈ c.operands, evX x τ = evX x τ') : xOp (.call c) τ a n = xOp (.call c) τ' a n := by
 obtain ⟨callee, args, ts⟩ := c
 have hx : qi args.toList τ = qi args.toList τ' := m9 fun x hx => h x (by simp only [Call.operands, Array.mem_append]; right; simpa using hx)
 cases callee <;> simp only [xOp, hx]
theorem aqx (op : Op) (n : Nat) (h : ∀ x ∈ op.operands, evX x τ = evX x τ') : xOp op τ a n = xOp op τ' a n := by
 cases op <;> simp only [Op.operands] at h <;> try dsimp only [xOp]
 case call c => exact akn h
 case slice t x lo hi mx => cases lo <;> cases hi <;> cases mx <;> simp_all
 all_goals (first | rfl | (simp_all; done))
theorem afr (op : Op) (h : ∀ x ∈ op.operands, evX x τ = evX x τ') : zOp op τ a = zOp op τ' a := by
 unfold zOp
 rw [ak9 op h]
 congr 1
 split
 ·exact aqx op _ h
 ·rfl
def fm (a : W) : OR → Prop
 | .val _ a' => a' = a
 | _ => True
theorem j2 (v : AV) : fm a (.val v a) := rfl
theorem au {c : Bool} {x y : OR} (hx : fm a x) (hy : fm a y) : fm a (bc c x y) := by rw [aa]; split <;> assumption
theorem dv (o : Option AV) (c : Nat) : fm a (nk o a c) := by cases o <;> trivial
theorem aqh (t : TypeId) (p : AV) : fm a (qh t p a) := by
 unfold qh
 split
 ·unfold ai5; split <;> try trivial
  ·unfold ayg; split <;> try trivial
   refine au ?_ trivial
   split <;> trivial
  ·split <;> trivial
 ·unfold acf; split <;> try trivial
  split <;> trivial
 ·trivial
theorem gu (ok : Bool) (v : AV) (b : Bool) : fm a (ng ok v b a) := by cases ok <;> trivial
theorem aj1 (t : TypeId) (m k : AV) (ok : Bool) : fm a (ru t m k ok a) := by
 unfold ru
 refine au ?_ ?_
 rotate_left
 ·unfold te
  split <;> try trivial
  split
  ·exact gu ..
  ·split
   ·split
    ·exact gu ..
    ·exact gu ..
    ·trivial
   ·trivial
  ·trivial
 split
 ·exact gu ..
 ·split
  ·split
   ·exact gu ..
   ·exact gu ..
   ·trivial
  ·split
   ·exact gu ..
   ·exact gu ..
   ·trivial
  ·trivial
 ·trivial
theorem aqg (s d : TypeId) (x : AV) : fm a (abt s d x a) := by
 unfold abt
 split <;> try trivial
 ·split <;> try trivial
  split <;> trivial
 ·split <;> try trivial
  exact au (j2 _) (au trivial (au (j2 _) trivial))
 ·split <;> try trivial
  exact au (j2 _) trivial
theorem vg (op : BinOp) (r : Bool) : fm a (qg op r a) := by unfold qg; split <;> trivial
theorem azs (op : BinOp) (t : TypeId) (x y : Operand) (p q : AV) : fm a (aic op t x y p q a) := by
 unfold aic
 split
 ·split
  ·exact dv ..
  ·exact dv ..
  ·exact au (dv ..) trivial
 ·exact dv ..
 ·exact au (dv ..) trivial
 ·exact au (dv ..) trivial
 ·exact au (dv ..) trivial
 ·exact au (vg ..) trivial
 ·exact au (vg ..) trivial
 ·exact au (vg ..) trivial
 ·split <;> first | exact au (dv ..) trivial | trivial
theorem a3l (op : UnOp) (x : AV) : fm a (asb op x a) := by
 unfold asb
 split <;> first | trivial | exact dv .. | exact j2 _
theorem amj (s : TypeId) (f : Nat) (x : AV) : fm a (wn s f x a) := by
 unfold wn
 split <;> first | trivial | exact dv ..
theorem aha (t : TypeId) (x i : AV) : fm a (lq t x i a) := by
 unfold lq
 split <;> try trivial
 ·split <;> first | trivial | exact au (j2 _) trivial
 ·split <;> first | trivial | exact au (j2 _) trivial
 ·split <;> first | trivial | exact au (au (j2 _) trivial) trivial
theorem azt (t : TypeId) (x i : AV) : fm a (wo t x i a) := by
 unfold wo
 split <;> try trivial
 ·exact au (j2 _) trivial
 ·split <;> first | trivial | exact au (dv ..) trivial
theorem aml (t : TypeId) (x : AV) (lo hi mx : Option AV) : fm a (wq t x lo hi mx a) := by
 unfold wq
 repeat' split
 all_goals first
  | trivial
  | exact au (j2 _) (j2 _)
  | exact au (au (j2 _) (au (j2 _) trivial)) trivial
  | (repeat' first | exact j2 _ | trivial | apply au)
theorem aj0 (x : AV) (t : TypeId) (ok : Bool) : fm a (rr x t ok a) := by
 unfold rr
 split <;> try trivial
 ·exact au (au (dv ..) trivial) trivial
 ·split <;> first | trivial | exact au (dv ..) trivial
theorem azu (t : TypeId) (x : AV) : fm a (aid t x a) := by
 unfold aid
 split <;> try trivial
 split <;> trivial
theorem ami (t : TypeId) (ps : List (Nat × AV)) : fm a (wm t ps a) := by
 unfold wm
 split <;> try trivial
 ·exact au (au (dv ..) trivial) trivial
 ·split <;> first | trivial | exact au (dv ..) trivial
theorem aqj (c x y : AV) : fm a (abu c x y a) := by unfold abu; split <;> trivial
theorem azk {op : Op} (h : ui op = .rd) (τ : F) : fm a (x9 op τ a) := by
 cases op <;> try (cases h; done)
 case load => exact aqh ..
 case lookup => exact aj1 ..
 case convert => exact aqg ..
 case binOp => exact azs ..
 case unOp => exact a3l ..
 case index => exact azt ..
 case indexAddr => exact aha ..
 case field => exact amj ..
 case slice => exact aml ..
 case typeAssert => exact aj0 ..
 case pick => exact aqj ..
 case build => exact ami ..
 case makeInterface => exact au trivial (au (j2 _) trivial)
 case makeFunc => exact au (j2 _) trivial
 case call c =>
  obtain ⟨callee, args, ts⟩ := c
  show fm a (rt _ τ a)
  unfold rt
  cases callee with
  | value f => cases h
  | invoke r m => cases h
  | builtin b =>
    cases b <;> try (cases h; done)
    ·dsimp only
     unfold tc
     split <;> first | trivial | exact azu .. | simp_all
    ·exact dv ..
theorem azd {op : Op} (h : ui op = .pu) {v : AV} {a' : W} (he : x9 op τ a = .val v a') (b : W) : x9 op τ b = .val v b := by
 cases op <;> try (cases h; done)
 case move x => cases he; rfl
 case assign x => cases he; rfl
 case fieldAddr s x f =>
  have he : j4 s f (evX x τ) a = .val v a' := he
  show j4 s f (evX x τ) b = _
  unfold j4 at he ⊢
  split at he
  ·rename_i heq hx
   rw [aa] at he
   split at he
   ·cases he
   ·rename_i hz; cases he; simp only [aa, hz]; rfl
  ·cases he
 case extract t i =>
  have he : mn (evX t τ) i a = .val v a' := he
  show mn (evX t τ) i b = _
  unfold mn at he ⊢
  split at he
  ·rename_i vs hx
   cases hn : nth vs i with
   | none => rw [hn] at he; cases he
   | some u => rw [hn] at he; cases he; rfl
  ·cases he
 case nilCheck x =>
  have he : k9 (evX x τ) a = .val v a' := he
  show k9 (evX x τ) b = _
  unfold k9 at he ⊢
  split at he <;> first | (cases he; rfl) | cases he
 case call c =>
  obtain ⟨callee, args, ts⟩ := c
  cases callee with
  | value f => cases h
  | invoke r m => cases h
  | builtin b => cases b <;> cases h
def pq (f : W → OR) : Prop := (∃ o g, (o ≠ .none ∧ ay o = none ∧ o.isRo = false) ∧ ∀ a, f a = kz o g a) ∨ ∀ a, ∃ c, f a = .no c
theorem pa {c : Bool} {f : W → OR} {n : Nat} (h : pq f) : pq fun a => bc c (f a) (.no n) := by
 cases c with
 | false => exact .inr fun a => ⟨n, rfl⟩
 | true => exact h
theorem apq {op : Op} (h : ui op = .fl) (τ : F) : pq (x9 op τ) := by
 cases op <;> try (cases h; done)
 case alloc t =>
  show pq fun a => (match fy t with | some z => bc (ju z) (newRow t (cellsOf z) a) (.no 174) | none => .no 160)
  cases fy t with
  | none => exact .inr fun a => ⟨_, rfl⟩
  | some z => exact pa (pa (.inl ⟨_, _, ⟨AObj.noConfusion, rfl, rfl⟩, fun a => rfl⟩))
 case box t x => exact pa (pa (.inl ⟨_, _, ⟨AObj.noConfusion, rfl, rfl⟩, fun a => rfl⟩))
 case buildSlice t n ps =>
  show pq fun a => kk t n (mc ps.toList τ) a
  unfold kk
  cases al t with
  | none => exact .inr fun a => ⟨_, rfl⟩
  | some d =>
    cases d <;> try exact .inr fun a => ⟨_, rfl⟩
    rename_i e
    dsimp only
    cases sizeOf e with
    | none => exact .inr fun a => ⟨_, rfl⟩
    | some s =>
      cases fy e with
      | none => exact .inr fun a => ⟨_, rfl⟩
      | some z =>
        dsimp only
        refine pa ?_
        split
        ·exact pa (.inl ⟨_, _, ⟨AObj.noConfusion, rfl, rfl⟩, fun a => rfl⟩)
        ·exact .inr fun a => ⟨_, rfl⟩
 case makeMap t r =>
  show pq fun a => o5 t (r.map fun y => evX y τ) a
  unfold o5
  cases r with
  | none => exact .inl ⟨_, _, ⟨AObj.noConfusion, rfl, rfl⟩, fun a => rfl⟩
  | some y =>
    dsimp only [Option.map_some]
    split
    ·exact .inl ⟨_, _, ⟨AObj.noConfusion, rfl, rfl⟩, fun a => rfl⟩
    ·exact .inr fun a => ⟨_, rfl⟩
 case call c =>
  obtain ⟨callee, args, ts⟩ := c
  cases callee with
  | value f => cases h
  | invoke r m => cases h
  | builtin b => cases b <;> cases h
theorem bq {x y : SE} {A : List SA} {r : Bool} {c : Nat} {k : OR} (h : fm a k) : fm a (iw x y A r c k) := by
 unfold iw
 split
 ·exact au h trivial
 ·trivial
theorem amn (t : TypeId) (p : AV) (c : Nat) : fm a (akp t p a c) := by
 unfold akp
 split <;> try trivial
 ·split <;> try trivial
  ·refine au (bq ?_) trivial
   split
   ·split <;> first | rfl | trivial
   ·split <;> first | rfl | trivial
   ·trivial
  ·unfold ahj
   refine au ?_ trivial
   split <;> first | rfl | trivial
 ·split <;> try trivial
  ·refine au (bq ?_) ?_
   ·split <;> first | rfl | trivial
   ·unfold ahk
    split <;> try trivial
    refine au (bq (bq (bq ?_))) trivial
    split <;> first | rfl | trivial
  ·refine au (bq ?_) trivial
   split <;> first | rfl | trivial
theorem amk (ok : Bool) (z : AV) (c : Nat) (r : Nat ⊕ Option AV) : fm a (ayn ok z a c r) := by
 unfold ayn
 split <;> first | exact gu .. | trivial
theorem ahb (t : TypeId) (m k : AV) (ok : Bool) (c : Nat) : fm a (xq t m k ok a c) := by
 unfold xq
 split <;> try trivial
 split <;> try trivial
 ·split <;> try trivial
  exact au (amk ..) trivial
 ·split <;> try trivial
  refine au ?_ trivial
  split <;> first | exact gu .. | trivial
theorem amm (s d : TypeId) (x : AV) (c : Nat) : fm a (ako s d x a c) := by
 unfold ako
 split <;> first | rfl | trivial
theorem aj2 (s d : TypeId) (x : AV) (c : Nat) : fm a (adr s d x a c) := by
 unfold adr
 split
 ·split <;> try trivial
  ·unfold ahh
   split <;> first | exact au rfl trivial | trivial
  ·split <;> first | exact au rfl trivial | trivial
 ·exact amm ..
theorem aj3 (r : Bool) (t : TypeId) (x y : AV) (c : Nat) : fm a (y8 r t x y a c) := by
 unfold y8
 split
 ·rfl
 ·split <;> try trivial
  split <;> trivial
theorem aqk (op : BinOp) (t : TypeId) (x y : Operand) (b d : AV) (c : Nat) : fm a (a0a op t x y b d a c) := by
 unfold a0a
 split
 ·unfold aau
  split
  ·exact bq rfl
  ·split <;> first | rfl | trivial
  ·split <;> first | rfl | trivial
  ·trivial
 ·split
  ·refine au ?_ (au ?_ trivial)
   ·unfold ahl
    split <;> first | exact bq rfl | trivial
   ·unfold aoq
    split <;> first | rfl | trivial
  ·refine au ?_ trivial
   split <;> first | exact aj3 .. | trivial
theorem aj4 (t : TypeId) (x i : AV) (c : Nat) : fm a (ads t x i a c) := by
 unfold ads
 split <;> first | exact bq (bq rfl) | trivial
theorem aaa (t : TypeId) (x i : AV) (c : Nat) : fm a (nr t x i a c) := by
 unfold nr
 split <;> try trivial
 ·refine au ?_ trivial
  split <;> try trivial
  exact au (bq (bq rfl)) trivial
 ·split <;> first | exact bq (bq rfl) | trivial
theorem aj5 (t : TypeId) (x : AV) (lo hi mx : Option AV) (c : Nat) : fm a (adt t x lo hi mx a c) := by
 unfold adt
 split
 ·unfold ahm
  split <;> try trivial
  split <;> first | rfl | trivial
 ·unfold aas
  split <;> try trivial
  split <;> try trivial
  exact au (bq (bq (bq (bq rfl)))) trivial
 ·unfold aat
  split <;> try trivial
  split <;> try trivial
  exact bq (bq (bq rfl))
theorem aql (t : TypeId) (x : AV) (c : Nat) : fm a (a0d t x a c) := by
 unfold a0d
 split <;> first | rfl | trivial
theorem a0i {op : Op} (h : ui op = .rd) (τ : F) (c : Nat) : fm a (xOp op τ a c) := by
 cases op <;> try (cases h; done)
 case load => exact amn ..
 case lookup => exact ahb ..
 case convert => exact aj2 ..
 case binOp => exact aqk ..
 case index => exact aj4 ..
 case indexAddr => exact aaa ..
 case slice => exact aj5 ..
 case call d =>
  obtain ⟨callee, args, ts⟩ := d
  cases callee with
  | value f => cases h
  | invoke r m => cases h
  | builtin b =>
    cases b <;> try (cases h; done)
    ·show fm a (sw _ _ _ a c)
     unfold sw
     split <;> first | exact aql .. | trivial | simp_all
    ·show fm a (.no c)
     trivial
 all_goals trivial
theorem aqi {r : OR} (h : fm a r) : fm a (j6 r) := by cases r <;> exact h
theorem aof {op : Op} (h : ui op = .rd) (τ : F) : fm a (zOp op τ a) := by
 unfold zOp
 refine aqi ?_
 split
 ·exact a0i h τ _
 ·exact azk h τ
theorem ug {op : Op} (h : ∀ c, xOp op τ a c = .no c) : zOp op τ a = j6 (x9 op τ a) := by
 unfold zOp
 congr 1
 split
 ·rename_i c hc; rw [h, hc]
 ·rfl
theorem ap4 {r : OR} {v : AV} {a' : W} (h : j6 r = .val v a') : ∃ u, r = .val u a' ∧ v = acn u := by
 cases r <;> simp only [j6] at h <;> try (cases h; done)
 injection h with h1 h2
 subst h1 h2
 exact ⟨_, rfl, rfl⟩
theorem bah {op : Op} (h : ui op = .pu) (c : Nat) : xOp op τ a c = .no c := by
 cases op <;> try (cases h; done)
 case call d =>
  obtain ⟨callee, args, ts⟩ := d
  cases callee with
  | value f => cases h
  | invoke r m => cases h
  | builtin b => cases b <;> cases h
 all_goals rfl
theorem a9x {op : Op} (h : ui op = .fl) (c : Nat) : xOp op τ a c = .no c := by
 cases op <;> try (cases h; done)
 case call d =>
  obtain ⟨callee, args, ts⟩ := d
  cases callee with
  | value f => cases h
  | invoke r m => cases h
  | builtin b => cases b <;> cases h
 all_goals rfl
theorem a3f {op : Op} (h : ui op = .pu) {v : AV} {a' : W} (he : zOp op τ a = .val v a') (b : W) : zOp op τ b = .val v b := by
 rw [ug (bah h)] at he ⊢
 obtain ⟨u, h1, rfl⟩ := ap4 he
 rw [azd h h1 b]; rfl
theorem alu {f : W → OR} (h : pq f) : pq fun a => j6 (f a) := by
 rcases h with ⟨o, g, h1, h2⟩ | h
 ·refine .inl ⟨o, fun k => acn (g k), h1, fun a => ?_⟩
  show j6 (f a) = _
  rw [h2]
  cases a with
  | mk hh nx =>
    show j6 (bc nx.isMax (.no 1) (.val (g nx) (.mk (bn nx o hh) nx.succ))) = bc nx.isMax (.no 1) (.val (acn (g nx)) (.mk (bn nx o hh) nx.succ))
    cases nx.isMax <;> rfl
 ·exact .inr fun a => by obtain ⟨c, e⟩ := h a; exact ⟨c, by show j6 (f a) = _; rw [e]; rfl⟩
theorem asf {op : Op} (h : ui op = .fl) (τ : F) : pq (zOp op τ) := by
 have e : zOp op τ = fun a => j6 (x9 op τ a) := funext fun a => ug (a9x h)
 rw [e]; exact alu (apq h τ)
theorem a0q {op : Op} (h : ui op = .mu) : False := by
 cases op <;> try (cases h; done)
 case call c =>
  obtain ⟨callee, args, ts⟩ := c
  cases callee with
  | value f => cases h
  | invoke r m => cases h
  | builtin b => cases b <;> cases h
theorem afy {pm : PM} {op : Op} {c : CL} (h : cls pm op = c) : ui op = c ∨ (c = .mu ∧ ∃ i t d x y, pm = .mk i d ∧ op = .insert t (.tmp d) x y) := by
 cases pm with
 | none => exact .inl h
 | mk i d =>
   have h : a0r d op = c := h
   unfold a0r at h
   split at h
   ·rename_i tt t' x y
    unfold a6z at h
    rw [aa] at h
    split at h
    ·rename_i hq
     have := zW hq
     subst this
     exact .inr ⟨h.symm, i, _, _, _, _, rfl, rfl⟩
    ·exact .inl h
   ·exact .inl h
theorem a4s {pm : PM} {op : Op} (h : cls pm op = .pu) : ui op = .pu := by rcases afy h with h | ⟨h, _⟩; exact h; cases h
theorem arj {pm : PM} {op : Op} (h : cls pm op = .rd) : ui op = .rd := by rcases afy h with h | ⟨h, _⟩; exact h; cases h
theorem a4q {pm : PM} {op : Op} (h : cls pm op = .fl) : ui op = .fl := by rcases afy h with h | ⟨h, _⟩; exact h; cases h
theorem a4r {pm : PM} {op : Op} (h : cls pm op = .mu) : ∃ i t d x y, pm = .mk i d ∧ op = .insert t (.tmp d) x y := by
 rcases afy h with h | ⟨_, h⟩
 ·exact (a0q h).elim
 ·exact h
theorem afc : ∀ (l : List Oper) (j i d : Nat), aqa l j = .mk i d → j ≤ i ∧ ∃ o, l[i - j]? = some o ∧ o.dst = some d ∧ a5d o.op = true
 | [], _, _, _, h => by cases h
 | o :: l, j, i, d, h => by
   simp only [aqa, aa] at h
   have next : aqa l (Nat.succ j) = .mk i d → j ≤ i ∧ ∃ o', (o :: l)[i - j]? = some o' ∧ o'.dst = some d ∧ a5d o'.op = true := by
    intro h
    obtain ⟨h1, o', h2, h3⟩ := afc l _ i d h
    have h1 : j + 1 ≤ i := h1
    refine ⟨by omega, o', ?_, h3⟩
    rw [show i - j = (i - (j + 1)) + 1 by omega, List.getElem?_cons_succ]
    exact h2
   split at h
   ·rename_i hm
    split at h
    ·rename_i d' hd
     injection h with h1 h2
     subst h1 h2
     exact ⟨zY _, o, by simp, hd, hm⟩
    ·exact next h
   ·exact next h
theorem ab4 {op : Op} {v : AV} {a' : W} (h : gD op τ a = .val v a') : zOp op τ a = .val v a' := by rw [← asi]; exact h
theorem age {op : Op} {f : FuncId} {vs : List AV} {a' : W} (h : gD op τ a = .call f vs a') : zOp op τ a = .call f vs a' := by rw [← asi]; exact h
end
end Go.Ev
set_option linter.all false
namespace Go.Ev
variable [Gv]
section
variable {pm : PM} {ops : Array Oper}
def fb (ops : Array Oper) (L : Nat → Bool) : Prop := ∀ j o, ops[j]? = some o → L j = true → ∀ e ∈ o.after, Region.binds .any e = true → L e.on = true
theorem a4c (m i : Nat) : tb m i = m.testBit i := by
 have h : tb m i = Nat.beq ((m >>> i) &&& 1) 1 := rfl
 rw [h, Nat.testBit, Nat.and_comm]
 rcases Nat.mod_two_eq_zero_or_one (m >>> i) with e | e
 ·have : 1 &&& (m >>> i) = 0 := by rw [Nat.one_and_eq_mod_two, e]
  rw [this]; rfl
 ·have : 1 &&& (m >>> i) = 1 := by rw [Nat.one_and_eq_mod_two, e]
  rw [this]; rfl
theorem afn : adm = 2 ^ 256 := by decide
theorem agd (M t i : Nat) : (fld M t).testBit i = (decide (i < 256) && M.testBit (t * 256 + i)) := by
 have h : fld M t = (M >>> (t * 256)) % adm := rfl
 rw [h, afn, Nat.testBit_mod_two_pow, Nat.testBit_shiftRight]
theorem o9 (M t m t' i : Nat) : (fld (aij M t m) t').testBit i = true ↔ (fld M t').testBit i = true ∨ (t' = t ∧ i < 256 ∧ m.testBit i = true) := by
 have h : aij M t m = M ||| ((m % adm) <<< (t * 256)) := rfl
 rw [agd, agd, h, afn, Nat.testBit_or, Nat.testBit_shiftLeft, Nat.testBit_mod_two_pow]
 simp only [zU, Bool.or_eq_true, decide_eq_true_eq]
 constructor
 ·rintro ⟨h1, h2 | ⟨h2, h3, h4⟩⟩
  ·exact .inl ⟨h1, h2⟩
  ·right
   have e : t' = t := by omega
   subst e
   refine ⟨rfl, h1, ?_⟩
   have : t' * 256 + i - t' * 256 = i := by omega
   rw [this] at h4; exact h4
 ·rintro (⟨h1, h2⟩ | ⟨rfl, h1, h2⟩)
  ·exact ⟨h1, .inl h2⟩
  ·refine ⟨h1, .inr ⟨by omega, by omega, ?_⟩⟩
   have : t' * 256 + i - t' * 256 = i := by omega
   rw [this]; exact h2
theorem aao (j i : Nat) : (Nat.shiftLeft 1 j).testBit i = true ↔ i = j := by
 have h : Nat.shiftLeft 1 j = 2 ^ j := Nat.one_shiftLeft j
 rw [h, Nat.testBit_two_pow]
 simp only [decide_eq_true_eq]
 exact eq_comm
theorem adi {x y i : Nat} (h : azz x y = true) (hx : x.testBit i = true) : y.testBit i = true := by
 have h : x &&& y = x := zW h
 rw [← h, Nat.testBit_and] at hx
 simp only [zU] at hx
 exact hx.2
theorem aei : ∀ (es : List Edge) (B : Nat) (s i : Nat), Nat.testBit (ano es B s) i = true → Nat.testBit s i = true ∨ ∃ e ∈ es, Region.binds .any e = true ∧ (i = e.on ∨ (fld B e.on).testBit i = true)
 | [], _, _, _, h => .inl h
 | e :: es, B, s, i, h => by
   simp only [ano] at h
   rcases aei es B _ i h with h | ⟨e', h1, h2, h3⟩
   ·rw [aa] at h
    split at h
    ·rename_i hb
     have h : ((s ||| Nat.shiftLeft 1 e.on) ||| fld B e.on).testBit i = true := h
     rw [Nat.testBit_or, Nat.testBit_or] at h
     simp only [Bool.or_eq_true] at h
     rcases h with (h | h) | h
     ·exact .inl h
     ·exact .inr ⟨e, by simp, hb, .inl ((aao _ _).1 h)⟩
     ·exact .inr ⟨e, by simp, hb, .inr h⟩
    ·exact .inl h
   ·exact .inr ⟨e', by simp [h1], h2, h3⟩
theorem ahv {L : Nat → Bool} (hc : fb ops L) : ∀ (l : List Oper) (j B : Nat), ops.toList.drop j = l →
  (∀ x i, (fld B x).testBit i = true → L x = true → L i = true) → ∀ x i, (fld (a4j l j B) x).testBit i = true → L x = true → L i = true
 | [], _, _, _, h => h
 | o :: l, j, B, hl, h => by
   have ho : ops[j]? = some o := by
    have := congrArg (·[0]?) hl
    simpa using this
   refine ahv hc l _ _ ?_ ?_
   ·have := congrArg List.tail hl
    simpa using this
   ·intro x i hi hL
    rcases (o9 _ _ _ _ _).1 hi with hi | ⟨rfl, _, hi⟩
    ·exact h x i hi hL
    ·rcases aei _ _ _ _ hi with h0 | ⟨e, h1, h2, h3⟩
     ·simp at h0
     ·have hle := hc _ o ho hL e (by simpa using h1) h2
      rcases h3 with h3 | h3
      ·rw [h3]; exact hle
      ·exact h _ i h3 hle
theorem ca {L : Nat → Bool} (hc : fb ops L) {i j : Nat} (h : bu ops i j = true) (hj : L j = true) : L i = true := by
 unfold bu bo aa0 at h
 rw [a4c] at h
 exact ahv hc ops.toList 0 0 rfl (by intro x i h; rw [agd] at h; simp at h) j i h hj
theorem vn {p : Nat → Bool} : ∀ n, aq7 p n = true ↔ ∀ i, i < n → p i = true
 | 0 => ⟨fun _ i h => by omega, fun _ => rfl⟩
 | n + 1 => by
   simp only [aq7, aa]
   constructor
   ·intro h i hi
    split at h
    ·rename_i hp
     rcases Nat.lt_or_ge i n with h1 | h1
     ·exact (vn n).1 h i h1
     ·have : i = n := by omega
      rw [this]; exact hp
    ·cases h
   ·intro h
    rw [if_pos (h n (by omega))]
    exact (vn n).2 fun i hi => h i (by omega)
theorem uc (ops : Array Oper) : yv ops = ops.size := by unfold yv; rw [ao]; simp
theorem vi {t : Nat} : ∀ {l : List Operand}, .tmp t ∈ l → t ∈ y7 l
 | x :: l, h => by
   rcases List.mem_cons.1 h with h | h
   ·subst h; simp [y7]
   ·have := vi h
    cases x <;> simp [y7, this]
theorem tw {i j : Nat} (h : Nat.blt i j = true) : i < j := zE h
theorem s9 {i j : Nat} (h : i < j) : Nat.blt i j = true := Nat.ble_eq_true_of_le h
theorem bc_imp {x y : Bool} : bc x y true = true ↔ (x = true → y = true) := by cases x <;> cases y <;> simp [aa]
structure Drawn (pm : PM) (ops : Array Oper) : Prop where
 edge : ∀ j o, ops[j]? = some o → ∀ e ∈ o.after, Region.binds .any e = true → e.on < j
 tmp : ∀ i j oi oj d, i ≠ j → ops[i]? = some oi → ops[j]? = some oj → oi.dst = some d → d ∈ lx ops.toList oj → (i < j → bu ops i j = true) ∧ (j < i → bu ops j i = true)
 eff : ∀ i j oi oj, i < j → ops[i]? = some oi → ops[j]? = some oj → cls pm oi.op = .ef → cls pm oj.op = .ef → bu ops i j = true
theorem wc {j : Nat} : ∀ {l : List Edge}, wb j l = true → ∀ e ∈ l, Region.binds .any e = true → e.on < j
 | e :: l, h, x, hx, hb => by
   simp only [wb] at h
   obtain ⟨h1, h2⟩ := bc_and.1 h
   rcases List.mem_cons.1 hx with e' | e'
   ·subst e'; exact tw (bc_imp.1 h1 hb)
   ·exact wc h2 x e' hb
theorem zw {Wm b : Nat} : ∀ {l : List Nat}, amu Wm b l = true → ∀ t ∈ l, azz (fld Wm t) b = true
 | t :: l, h, x, hx => by
   obtain ⟨h1, h2⟩ := bc_and.1 h
   rcases List.mem_cons.1 hx with e | e
   ·rw [e]; exact h1
   ·exact zw h2 x e
theorem aaw {j : Nat} (hj : j < 256) : ∀ (l : List Nat) (Rm t i : Nat), (fld Rm t).testBit i = true ∨ (i = j ∧ t ∈ l) → (fld (a4g j l Rm) t).testBit i = true
 | [], _, _, _, h => by
   rcases h with h | ⟨_, h⟩
   ·exact h
   ·cases h
 | u :: l, Rm, t, i, h => by
   refine aaw hj l _ t i ?_
   rcases h with h | ⟨h1, h2⟩
   ·exact .inl ((o9 _ _ _ _ _).2 (.inl h))
   ·rcases List.mem_cons.1 h2 with e | e
    ·exact .inl ((o9 _ _ _ _ _).2 (.inr ⟨e, by omega, (aao _ _).2 h1⟩))
    ·exact .inr ⟨h1, e⟩
theorem ahp {j : Nat} (hj : j < 256) {Wm t i : Nat} {dst : Option Nat} (h : (fld Wm t).testBit i = true ∨ (i = j ∧ dst = some t)) : (fld (a6c Wm j dst) t).testBit i = true := by
 cases dst with
 | none =>
   rcases h with h | ⟨_, h⟩
   ·exact h
   ·cases h
 | some d =>
   rcases h with h | ⟨h1, h2⟩
   ·exact (o9 _ _ _ _ _).2 (.inl h)
   ·injection h2 with h2
    exact (o9 _ _ _ _ _).2 (.inr ⟨h2.symm, by omega, (aao _ _).2 h1⟩)
theorem abe (hn : ops.size ≤ 256) : ∀ (l : List Oper) (j Wm Rm Em : Nat), ops.toList.drop j = l → ank pm ops.toList (aa0 ops) l j Wm Rm Em = true →
  (∀ i oi t, i < j → ops[i]? = some oi → oi.dst = some t → (fld Wm t).testBit i = true) → (∀ i oi t, i < j → ops[i]? = some oi → t ∈ lx ops.toList oi → (fld Rm t).testBit i = true) →
  (∀ i oi, i < j → ops[i]? = some oi → cls pm oi.op = .ef → Em.testBit i = true) →
  ∀ k o, j ≤ k → ops[k]? = some o → wb k o.after.toList = true ∧ (∀ i oi t, i < k → ops[i]? = some oi → oi.dst = some t → t ∈ lx ops.toList o → bu ops i k = true) ∧
   (∀ i oi t, i < k → ops[i]? = some oi → o.dst = some t → t ∈ lx ops.toList oi → bu ops i k = true) ∧ (∀ i oi, i < k → ops[i]? = some oi → cls pm oi.op = .ef → cls pm o.op = .ef → bu ops i k = true)
 | [], j, _, _, _, hl, _, _, _, _, k, o, hjk, hk => by
   have h1 := (zI.1 hk).1
   have := congrArg List.length hl
   simp at this
   omega
 | o' :: l, j, Wm, Rm, Em, hl, h, hW, hR, hE, k, o, hjk, hk => by
   have ho : ops[j]? = some o' := by
    have := congrArg (·[0]?) hl
    simpa using this
   have hj : j < ops.size := (zI.1 ho).1
   have hl' : ops.toList.drop (j + 1) = l := by
    have := congrArg List.tail hl
    simpa using this
   simp only [ank] at h
   obtain ⟨k1, h⟩ := bc_and.1 h
   obtain ⟨k2, h⟩ := bc_and.1 h
   obtain ⟨k3, h⟩ := bc_and.1 h
   obtain ⟨k4, h⟩ := bc_and.1 h
   have key : ∀ i, (fld (aa0 ops) j).testBit i = true → bu ops i j = true := by
    intro i hi; unfold bu bo; rw [a4c]; exact hi
   rcases Nat.eq_or_lt_of_le hjk with e | e
   ·subst e
    rw [ho] at hk; cases hk
    refine ⟨k1, ?_, ?_, ?_⟩
    ·intro i oi t hi hoi hd ht
     exact key i (adi (zw k2 t ht) (hW i oi t hi hoi hd))
    ·intro i oi t hi hoi hd ht
     rw [hd] at k3
     exact key i (adi k3 (hR i oi t hi hoi ht))
    ·intro i oi hi hoi h1 h2
     rw [h2] at k4
     exact key i (adi k4 (hE i oi hi hoi h1))
   ·refine abe hn l (j + 1) _ _ _ hl' h ?_ ?_ ?_ k o (by omega) hk
    ·intro i oi t hi hoi hd
     rcases Nat.lt_or_ge i j with q | q
     ·exact ahp (by omega) (.inl (hW i oi t q hoi hd))
     ·have : i = j := by omega
      subst this
      rw [ho] at hoi; cases hoi
      exact ahp (by omega) (.inr ⟨rfl, hd⟩)
    ·intro i oi t hi hoi ht
     rcases Nat.lt_or_ge i j with q | q
     ·exact aaw (by omega) _ _ _ _ (.inl (hR i oi t q hoi ht))
     ·have : i = j := by omega
      subst this
      rw [ho] at hoi; cases hoi
      exact aaw (by omega) _ _ _ _ (.inr ⟨rfl, ht⟩)
    ·intro i oi hi hoi hc
     rw [aa]
     have mono : Em.testBit i = true → (Nat.lor Em (Nat.shiftLeft 1 j)).testBit i = true := by
      intro q
      have : (Em ||| Nat.shiftLeft 1 j).testBit i = true := by rw [Nat.testBit_or, q]; rfl
      exact this
     rcases Nat.lt_or_ge i j with q | q
     ·split
      ·exact mono (hE i oi q hoi hc)
      ·exact hE i oi q hoi hc
     ·have : i = j := by omega
      subst this
      rw [ho] at hoi; cases hoi
      rw [hc, if_pos (show asu CL.ef = true from rfl)]
      have : (Em ||| Nat.shiftLeft 1 i).testBit i = true := by rw [Nat.testBit_or, (aao i i).2 rfl, Bool.or_true]
      exact this
theorem rq (h : u3 pm ops = true) : Drawn pm ops := by
 unfold u3 at h
 obtain ⟨h1, h2⟩ := bc_and.1 h
 rw [uc] at h1
 have hn := zE h1
 have key := abe hn ops.toList 0 0 0 0 rfl h2 (fun i _ _ h => by omega) (fun i _ _ h => by omega) (fun i _ h => by omega)
 refine ⟨fun j o ho e he hb => wc (key j o (by omega) ho).1 e (by simpa using he) hb, ?_, ?_⟩
 ·intro i j oi oj d hne hi hj hd hl
  exact ⟨fun q => (key j oj (by omega) hj).2.1 i oi d q hi hd hl, fun q => (key i oi (by omega) hi).2.2.1 j oj d q hj hd hl⟩
 ·intro i j oi oj hlt hi hj e1 e2
  exact (key j oj (by omega) hj).2.2.2 i oi hlt hi e1 e2
theorem rc {p : Nat → Bool} : ∀ l, aay p l = true ↔ ∀ i ∈ l, p i = true
 | [] => ⟨fun _ i h => (by cases h), fun _ => rfl⟩
 | x :: l => by
   simp only [aay]
   rw [bc_and, rc l]
   simp
theorem abn : ∀ (l : List Oper) (j : Nat), ops.toList.drop j = l → ∀ x o, j ≤ x → ops[x]? = some o → cls pm o.op = .ef → x ∈ u4 pm l j
 | [], j, hl, x, o, hx, ho, _ => by
   have h1 := (zI.1 ho).1
   have := congrArg List.length hl
   simp at this
   omega
 | o' :: l, j, hl, x, o, hx, ho, hc => by
   have ho' : ops[j]? = some o' := by
    have := congrArg (·[0]?) hl
    simpa using this
   have hl' : ops.toList.drop (j + 1) = l := by
    have := congrArg List.tail hl
    simpa using this
   simp only [u4, aa]
   rcases Nat.eq_or_lt_of_le hx with e | e
   ·subst e
    rw [ho'] at ho; cases ho
    rw [hc, if_pos (show asu CL.ef = true from rfl)]; simp
   ·have := abn l (j + 1) hl' x o (by omega) ho hc
    split
    ·exact zA _ this
    ·exact this
theorem x8 : ∀ (l : List Oper) (j : Nat), ops.toList.drop j = l → ∀ x ∈ u4 pm l j, ∃ o, ops[x]? = some o ∧ cls pm o.op = .ef
 | [], _, _, x, h => by cases h
 | o' :: l, j, hl, x, h => by
   have ho' : ops[j]? = some o' := by
    have := congrArg (·[0]?) hl
    simpa using this
   have hl' : ops.toList.drop (j + 1) = l := by
    have := congrArg List.tail hl
    simpa using this
   simp only [u4, aa] at h
   split at h
   ·rename_i hc
    rcases List.mem_cons.1 h with e | e
    ·subst e
     refine ⟨o', ho', ?_⟩
     cases hcl : cls pm o'.op <;> rw [hcl] at hc <;> first | rfl | cases hc
    ·exact x8 l (j + 1) hl' x e
   ·exact x8 l (j + 1) hl' x h
def un (L : Nat → Bool) : Nat → Nat
 | 0 => 0
 | n + 1 => un L n + bif L n then 0 else 1
theorem ahf {L : Nat → Bool} : ∀ n, un L n = 0 → ∀ i, i < n → L i = true
 | n + 1, h, i, hi => by
   simp only [un] at h
   rcases Nat.lt_or_ge i n with h1 | h1
   ·exact ahf n (by omega) i h1
   ·have : i = n := by omega
    subst this
    cases hL : L i with
    | true => rfl
    | false => rw [hL] at h; simp at h
theorem az5 {L : Nat → Bool} : ∀ n, (∀ i, i < n → L i = true) → un L n = 0
 | 0, _ => rfl
 | n + 1, h => by simp only [un, az5 n fun i hi => h i (by omega), h n (by omega), cond_true]
theorem akf {L L' : Nat → Bool} : ∀ n, (∀ i, i < n → L i = L' i) → un L n = un L' n
 | 0, _ => rfl
 | n + 1, h => by simp only [un, akf n fun i hi => h i (by omega), h n (by omega)]
def upL (L : Nat → Bool) (j : Nat) : Nat → Bool := fun i => if i = j then true else L i
theorem fx (L : Nat → Bool) (j : Nat) : upL L j j = true := by simp [upL]
theorem az (L : Nat → Bool) {i j : Nat} (h : i ≠ j) : upL L j i = L i := by simp [upL, h]
theorem az6 {L : Nat → Bool} {j : Nat} (hj : L j = false) : ∀ n, j < n → un L n = un (upL L j) n + 1
 | n + 1, h => by
   simp only [un]
   rcases Nat.lt_or_ge j n with h1 | h1
   ·rw [az6 hj n h1, az L (by omega)]; omega
   ·have : j = n := by omega
    subst this
    rw [fx, hj, akf (L' := L) j (fun i hi => az L (by omega))]
    simp
def ib (listed : Array Bool) : Nat → Bool := fun i => listed.getD i false
theorem ae7 {listed : Array Bool} {j : Nat} (h : j < listed.size) : ib (listed.setIfInBounds j true) = upL (ib listed) j := by
 funext i
 simp only [ib, upL, Array.getD_eq_getD_getElem?, Array.getElem?_setIfInBounds]
 by_cases e : i = j
 ·subst e; simp [h]
 ·rw [if_neg (Ne.symm e), if_neg e]
theorem ac4 {listed : Array Bool} (hs : listed.size = ops.size) {j : Nat} (h : j ∈ Region.ready .any ops listed) :
  ib listed j = false ∧ ∃ o, ops[j]? = some o ∧ ∀ e ∈ o.after, Region.binds .any e = true → ib listed e.on = true := by
 obtain ⟨h1, o, ho, h2⟩ := mem_ready.1 h
 have hj := (zI.1 ho).1
 refine ⟨?_, o, ho, h2⟩
 unfold ib
 rw [Array.getD_eq_getD_getElem?] at h1 ⊢
 rw [Array.getElem?_eq_getElem (by omega)] at h1 ⊢
 exact h1
theorem afg (hd : Drawn pm ops) {listed : Array Bool} (hs : listed.size = ops.size) (h : Region.ready .any ops listed = []) : ∀ j, j < ops.size → ib listed j = true := by
 intro j
 induction j using Nat.strongRecOn with
 | _ j ih =>
   intro hj
   cases hL : ib listed j with
   | true => rfl
   | false =>
     exfalso
     have : j ∈ Region.ready .any ops listed := by
      refine mem_ready.2 ⟨?_, ops[j], Array.getElem?_eq_getElem hj, fun e he hb => ?_⟩
      ·unfold ib at hL
       rw [Array.getD_eq_getD_getElem?] at hL ⊢
       rw [Array.getElem?_eq_getElem (by omega)] at hL ⊢
       exact hL
      ·have hlt := hd.edge j ops[j] (Array.getElem?_eq_getElem hj) e he hb
       exact ih e.on hlt (by omega)
     rw [h] at this
     cases this
end
end Go.Ev
set_option linter.all false
namespace Go.Ev
variable [Gv]
def PF.i : PF → Nat | .mk i _ _ => i
def PF.k : PF → K | .mk _ k _ => k
def PF.o : PF → AObj | .mk _ _ o => o
structure Held (N : Nat) (ρ : Env) (a : W) (w : World) (k : K) (o : AObj) : Prop where
 ex : ∃ c, ρ k = some c ∧ N ≤ c ∧ c < w.heap.size ∧ ORel ρ o (w.heap[c]?) ∧ (∀ l, ac l a.h ≠ .none → ρ l ≠ some c) ∧ (∀ arr t fz, w.heap[c]? = some (.cells arr t fz) → arr.size = ρ.sz k) ∧ ay o = none ∧ ∀ l, ay (ac l a.h) ≠ none → ¬ ρ.ft l c
omit [Gv] in
theorem ai6 {o : AObj} (h : ay o ≠ none) : o.isRo = false := by
 cases o with
 | gob g => cases g <;> first | rfl | exact absurd rfl h
 | _ => first | rfl | exact absurd rfl h
section
variable {N : Nat} {ρ ρ' ρ0 : Env} {a a' a0 : W} {w w' w0 : World} {k l : K} {o p : AObj}
theorem Held.adv (h : Held N ρ a w k o) (e : Adv ρ a w ρ' a' w') : Held N ρ' a' w' k o := by
 obtain ⟨c, h1, h2, h3, h4, h5, h6, h7, h8⟩ := h.ex
 have hn : ¬ Own ρ a c := fun ⟨l, q1, _, q3⟩ => by
  rcases q3 with q3 | ⟨q3, q4⟩
  ·exact h5 l q1 q3
  ·exact h8 l q3 q4
 have hx := e.frame c h3 hn
 refine ⟨c, (e.le _ _ h1).1, h2, Nat.lt_of_lt_of_le h3 e.size, by rw [hx]; exact h4.mono e.le, ?_, ?_, h7, ?_⟩
 ·intro l hl hc
  rcases e.keep l c hl hc with ⟨m, q1, q2⟩ | q
  ·exact h5 m q1 q2
  ·omega
 ·intro arr t fz hh
  rw [hx] at hh
  rw [(e.le _ _ h1).2]
  exact h6 arr t fz hh
 ·intro l hl hf
  rcases e.own c ⟨l, be hl, ai6 hl, .inr ⟨hl, hf⟩⟩ with q | q
  ·exact hn q
  ·omega
theorem Held.wset (h : Held N ρ a w k o) (e : ρ l ≠ ρ k) (hp : ay p = none) : Held N ρ (wset l p a) w k o := by
 obtain ⟨c, h1, h2, h3, h4, h5, h6, h7, h8⟩ := h.ex
 refine ⟨c, h1, h2, h3, h4, ?_, h6, h7, fun m hm => ?_⟩
 rotate_left
 ·rw [c8] at hm
  simp only [W.h_mk] at hm
  by_cases x : m = l
  ·subst x; rw [af, hp] at hm; exact absurd rfl hm
  ·rw [ak x] at hm; exact h8 m hm
 intro m hm hc
 rw [c8] at hm
 simp only [W.h_mk] at hm
 by_cases x : m = l
 ·subst x; rw [h1] at e; exact e hc
 ·rw [ak x] at hm; exact h5 m hm hc
theorem Held.lho (h : Held N ρ a w k o) : ay o = none := by obtain ⟨_, _, _, _, _, _, _, q, _⟩ := h.ex; exact q
theorem aax (h : Adv ρ0 a0 w0 ρ a w) (hh : Held w0.heap.size ρ a w k o) : Adv ρ0 a0 w0 ρ (wset k o a) w := by
 obtain ⟨c, h1, h2, h3, h4, h5, h6, h7, h8⟩ := hh.ex
 clear hh
 have hr := h.rel
 rw [c8]
 have old : ∀ l, l ≠ k → ac l (bn k o a.h) = ac l a.h := fun l hl => ak hl o a.h
 have lh1 : ∀ l, ay (ac l (bn k o a.h)) ≠ none → l ≠ k ∧ ay (ac l a.h) ≠ none := by
  intro l hl
  have l1 : l ≠ k := by rintro rfl; rw [af, h7] at hl; exact hl rfl
  rw [old l l1] at hl
  exact ⟨l1, hl⟩
 refine ⟨⟨?_, ?_, ?_, ?_⟩, h.le, h.rng, h.nx, h.size, ?_, ?_, h.frame, ?_, h.os, h.tape, h.output⟩
 ·intro x y hx hy e
  simp only [W.h_mk] at hx hy
  by_cases x1 : x = k
  ·by_cases y1 : y = k
   ·left; rw [x1, y1]
   ·rw [old y y1] at hy; subst x1; rw [h1] at e; exact absurd e.symm (h5 y hy)
  ·rw [old x x1] at hx
   by_cases y1 : y = k
   ·subst y1; rw [h1] at e; exact absurd e (h5 x hx)
   ·rw [old y y1] at hy; have := hr.inj x y hx hy e; simp only [W.h_mk]; rw [old x x1, old y y1]; exact this
 ·intro x hx
  simp only [W.h_mk] at hx ⊢
  by_cases x1 : x = k
  ·subst x1; rw [af]; exact ⟨c, h1, h4⟩
  ·rw [old x x1] at hx ⊢; exact hr.dom x hx
 ·intro x d arr t fz hx hd hh
  simp only [W.h_mk] at hx
  by_cases x1 : x = k
  ·subst x1; rw [h1] at hd; injection hd with hd; subst hd; exact h6 arr t fz hh
  ·rw [old x x1] at hx; exact hr.len x d arr t fz hx hd hh
 ·intro x kd g hx
  simp only [W.h_mk] at hx
  obtain ⟨x1, x2⟩ := lh1 x (n9 hx)
  rw [old x x1] at hx
  have q := hr.gho x kd g hx
  refine q.step rfl rfl (zY _) (fun _ _ => rfl) (fun l hl hlk d hd => ?_) (fun l hl => q.dis l (lh1 l hl).2)
  simp only [W.h_mk] at hl
  by_cases l1 : l = k
  ·subst l1; rw [h1] at hd; injection hd with hd; subst hd; exact h8 x x2
  ·rw [old l l1] at hl; exact q.sep l hl hlk d hd
 ·rintro d ⟨x, hx, hro, hd⟩
  simp only [W.h_mk] at hx hro hd
  by_cases x1 : x = k
  ·subst x1
   rcases hd with hd | ⟨hd, _⟩
   ·rw [h1] at hd; injection hd with hd; right; omega
   ·exact absurd rfl (lh1 x hd).1
  ·rw [old x x1] at hx hro hd; exact h.own d ⟨x, hx, hro, hd⟩
 ·intro x d hx hd
  simp only [W.h_mk] at hx
  by_cases x1 : x = k
  ·subst x1; rw [h1] at hd; injection hd with hd; right; omega
  ·rw [old x x1] at hx; exact h.keep x d hx hd
 ·intro x hx hl
  have q := h.fts x hx hl
  refine ⟨q.1, ?_⟩
  simp only [W.h_mk]
  by_cases x1 : x = k
  ·subst x1; rw [af]; exact h7
  ·rw [old x x1]; exact q.2
theorem ahq (m : Nat) : ∀ (l : List PF), (∀ p ∈ l, tb m p.i = true → Held w0.heap.size ρ a w p.k p.o) → l.Pairwise (fun p q => tb m p.i = true → tb m q.i = true → ρ p.k ≠ ρ q.k) → Adv ρ0 a0 w0 ρ a w →
  Adv ρ0 a0 w0 ρ (cm m l a) w ∧ ∀ k o, Held w0.heap.size ρ a w k o → (∀ p ∈ l, tb m p.i = true → ρ p.k ≠ ρ k) → Held w0.heap.size ρ (cm m l a) w k o
 | [], _, _, h => ⟨h, fun _ _ h _ => h⟩
 | .mk i k o :: l, hp, hd, h => by
   obtain ⟨h1, h2⟩ := ahq m l (fun p hl => hp p (zA _ hl)) (List.pairwise_cons.1 hd).2 h
   simp only [cm]
   rw [aa]
   split
   ·rename_i hb
    have hk : Held w0.heap.size ρ (cm m l a) w k o := h2 k o (hp (.mk i k o) (by simp) hb) fun p hl hb' => ((List.pairwise_cons.1 hd).1 p hl hb hb').symm
    refine ⟨aax h1 hk, fun k' o' h' hne => ?_⟩
    exact (h2 k' o' h' fun p hl hb => hne p (zA _ hl) hb).wset (hne (.mk i k o) (by simp) hb) hk.lho
   ·exact ⟨h1, fun k' o' h' hne => h2 k' o' h' fun p hl hb => hne p (zA _ hl) hb⟩
theorem aq8 : ∀ (l : List PF), (∀ p ∈ l, Held w0.heap.size ρ a w p.k p.o) → l.Pairwise (fun p q => ρ p.k ≠ ρ q.k) → Adv ρ0 a0 w0 ρ a w →
  Adv ρ0 a0 w0 ρ (abd l a) w ∧ ∀ k o, Held w0.heap.size ρ a w k o → (∀ p ∈ l, ρ p.k ≠ ρ k) → Held w0.heap.size ρ (abd l a) w k o
 | [], _, _, h => ⟨h, fun _ _ h _ => h⟩
 | .mk i k o :: l, hp, hd, h => by
   obtain ⟨h1, h2⟩ := aq8 l (fun p hl => hp p (zA _ hl)) (List.pairwise_cons.1 hd).2 h
   simp only [abd]
   have hk : Held w0.heap.size ρ (abd l a) w k o := h2 k o (hp (.mk i k o) (by simp)) fun p hl => ((List.pairwise_cons.1 hd).1 p hl).symm
   refine ⟨aax h1 hk, fun k' o' h' hne => ?_⟩
   exact (h2 k' o' h' fun p hl => hne p (zA _ hl)).wset (hne (.mk i k o) (by simp)) hk.lho
theorem mi (k : K) (o : AObj) (a : W) : (wset k o a).nx = a.nx := by rw [c8]; rfl
theorem sg (m : Nat) : ∀ (l : List PF) (a : W), (cm m l a).nx = a.nx
 | [], _ => rfl
 | .mk i k o :: l, a => by
   simp only [cm]
   rw [aa]
   split
   ·rw [mi, sg m l a]
   ·exact sg m l a
theorem ay4 : ∀ (l : List PF) (a : W), (abd l a).nx = a.nx
 | [], _ => rfl
 | .mk i k o :: l, a => by simp only [abd]; rw [mi, ay4 l a]
theorem WRel.rekeyed {h : H4} {nx nx' : K} (e : WRel ρ (.mk h nx) w) : WRel ρ (.mk h nx') w := ⟨e.inj, e.dom, e.len, fun k kd g hk => let q := e.gho k kd g hk; ⟨q.root, q.rel, q.lt, q.sep, q.dis⟩⟩
theorem Adv.forget {a2 : W} (h : Adv ρ0 a0 w0 ρ a2 w) (hk : ac k a.h = .none) (hs : ∀ l, l ≠ k → ac l a.h = ac l a2.h) (hn : a.nx = a2.nx) : Adv ρ0 a0 w0 ρ a w := by
 have at_ : ∀ l, ac l a.h ≠ .none → ac l a2.h = ac l a.h := by
  intro l hl
  refine (hs l ?_).symm
  rintro rfl; exact hl hk
 have ne : ∀ l, ac l a.h ≠ .none → ac l a2.h ≠ .none := fun l hl => by rw [at_ l hl]; exact hl
 refine ⟨⟨fun x y hx hy e => by have := h.rel.inj x y (ne x hx) (ne y hy) e; rw [at_ x hx, at_ y hy] at this; exact this, fun x hx => ?_, fun x c arr t fz hx hc hh => h.rel.len x c arr t fz (ne x hx) hc hh, fun x kd g hx => ?_⟩, h.le, fun x => by rw [hn]; exact h.rng x, by rw [hn]; exact h.nx, h.size, ?_, fun x c hx hc => h.keep x c (ne x hx) hc, h.frame, fun x hx hl => ?_, h.os, h.tape, h.output⟩
 ·obtain ⟨c, h1, h2⟩ := h.rel.dom x (ne x hx); exact ⟨c, h1, by rw [at_ x hx] at h2; exact h2⟩
 ·have hx' : ac x a.h ≠ .none := be (by rw [hx]; simp)
  have q := h.rel.gho x kd g (by rw [at_ x hx']; exact hx)
  exact q.step rfl rfl (zY _) (fun _ _ => rfl) (fun l hl => q.sep l (ne l hl)) (fun l hl => q.dis l (by rw [at_ l (be hl)]; exact hl))
 ·rintro c ⟨x, hx, hr, hc⟩; exact h.own c ⟨x, ne x hx, by rw [at_ x hx]; exact hr, by rw [at_ x hx]; exact hc⟩
 ·have q := h.fts x hx hl
  refine ⟨q.1, ?_⟩
  by_cases e : ac x a.h = .none
  ·rw [e]; rfl
  ·rw [← at_ x e]; exact q.2
theorem Held.forget {a2 : W} (h : Held N ρ a2 w l o) (hk : ac k a.h = .none) (hs : ∀ l, l ≠ k → ac l a.h = ac l a2.h) : Held N ρ a w l o := by
 obtain ⟨c, h1, h2, h3, h4, h5, h6, h7, h8⟩ := h.ex
 refine ⟨c, h1, h2, h3, h4, fun m hm => h5 m ?_, h6, h7, fun m hm => h8 m ?_⟩
 ·rw [← hs m (by rintro rfl; exact hm hk)]
  exact hm
 ·rw [← hs m (by rintro rfl; exact be hm hk)]
  exact hm
theorem Held.of_rel {a2 : W} {c : Nat} (hr : WRel ρ a2 w) (hk2 : ac k a2.h = o) (ho : o ≠ .none) (hlo : ay o = none) (hro : o.isRo = false) (hc : ρ k = some c) (hN : N ≤ c) (hk : ac k a.h = .none) (hs : ∀ l, l ≠ k → ac l a.h = ac l a2.h) : Held N ρ a w k o := by
 obtain ⟨c', h1, h2⟩ := hr.dom k (by rw [hk2]; exact ho)
 rw [hc] at h1; cases h1
 rw [hk2] at h2
 obtain ⟨y, hy⟩ := h2.some ho
 refine ⟨c, hc, hN, (zI.1 hy).1, h2, fun m hm e => ?_, fun arr t fz hh => hr.len k c arr t fz (by rw [hk2]; exact ho) hc hh, hlo, fun m hm hf => ?_⟩
 rotate_left
 ·have hne : m ≠ k := by rintro rfl; exact be hm hk
  have hm2 : ay (ac m a2.h) ≠ none := by rw [← hs m hne]; exact hm
  obtain ⟨⟨kd, g⟩, hkg⟩ := Option.ne_none_iff_exists'.1 hm2
  exact (hr.gho m kd g hkg).sep k (by rw [hk2]; exact ho) hne.symm c hc hf
 have hne : m ≠ k := by rintro rfl; exact hm hk
 exact hne (hr.inj1 (by rw [← hs m hne]; exact hm) (by rw [hk2]; exact ho) (.inr (by rw [hk2]; exact hro)) (by rw [e, hc]))
theorem Held.conv {p : AObj} (h : Held N ρ a w k o) (hc : ∀ x, ORel ρ o x → ORel ρ p x) (hp : ay p = none) : Held N ρ a w k p := by
 obtain ⟨c, h1, h2, h3, h4, h5, h6, _, h8⟩ := h.ex
 exact ⟨c, h1, h2, h3, hc _ h4, h5, h6, hp, h8⟩
theorem aou {h : H4} {nx key : K} (hA : Adv ρ0 a0 w0 ρ (.mk h nx) w) (hf : Adv ρ (.mk h key) w ρ' (.mk (bn key o h) key.succ) w') (hm : key.isMax = false) (hk : ρ key = none)
  (h1 : a0.nx.num ≤ key.num) (h2 : key.num < nx.num) (ho : o ≠ .none) (hlo : ay o = none) (hro : o.isRo = false) :
  Adv ρ0 a0 w0 ρ' (.mk h nx) w' ∧ Held w0.heap.size ρ' (.mk h nx) w' key o ∧ (∀ k, k ≠ key → ρ' k = ρ k) ∧ (∃ c, ρ' key = some c ∧ w.heap.size ≤ c ∧ c < w'.heap.size) ∧ ∀ k p, Held N ρ (.mk h nx) w k p → Held N ρ' (.mk h nx) w' k p ∧ ρ' k ≠ ρ' key := by
 have hsucc : key.succ.num = key.num + 1 := K.succ_num hm
 have same : ∀ k, k ≠ key → ρ' k = ρ k := by
  intro k hne
  rcases hf.rng k with e | e
  ·exact e
  ·simp only [W.nx_mk] at e
   exact absurd (K.num_inj (by omega)) hne
 have hnone : ac key h = .none := by
  by_cases e : ac key h = .none
  ·exact e
  ·obtain ⟨c, hc, _⟩ := hA.rel.dom key e; rw [hk] at hc; cases hc
 have old : ∀ k, k ≠ key → ac k (bn key o h) = ac k h := fun k hne => ak hne o h
 have ne : ∀ k, ac k h ≠ .none → k ≠ key := by rintro k hk' rfl; exact hk' hnone
 obtain ⟨c, hc, hor⟩ := hf.rel.dom key (by simp only [W.h_mk]; rw [af]; exact ho)
 simp only [W.h_mk] at hor
 rw [af] at hor
 obtain ⟨y, hy⟩ := hor.some ho
 have hlt : c < w'.heap.size := (zI.1 hy).1
 have hfresh : ∀ l, ac l h ≠ .none → ρ' l ≠ some c := by
  intro l hl he
  have hl' : ac l (bn key o h) ≠ .none := by rw [old l (ne l hl)]; exact hl
  have := hf.rel.inj1 (k := l) (l := key) (by simpa only [W.h_mk] using hl') (by simp only [W.h_mk]; rw [af]; exact ho) (.inr (by simp only [W.h_mk]; rw [af]; exact hro)) (by rw [he, hc])
  exact ne l hl this
 have hge : w.heap.size ≤ c := by
  rcases hf.keep key c (by simp only [W.h_mk]; rw [af]; exact ho) hc with ⟨l, q1, q2⟩ | q
  ·exact absurd (hf.le _ _ q2).1 (hfresh l q1)
  ·exact q
 have hs0 := hA.size
 have rel : WRel ρ' (.mk h nx) w' := by
  refine ⟨?_, ?_, ?_, ?_⟩
  ·intro x y hx hy e
   simp only [W.h_mk] at hx hy
   have := hf.rel.inj x y (by simp only [W.h_mk]; rw [old x (ne x hx)]; exact hx) (by simp only [W.h_mk]; rw [old y (ne y hy)]; exact hy) e
   simp only [W.h_mk] at this
   rw [old x (ne x hx), old y (ne y hy)] at this; exact this
  ·intro x hx
   simp only [W.h_mk] at hx ⊢
   have := hf.rel.dom x (by simp only [W.h_mk]; rw [old x (ne x hx)]; exact hx)
   simp only [W.h_mk] at this
   rw [old x (ne x hx)] at this
   exact this
  ·intro x d arr t fz hx hd hh
   simp only [W.h_mk] at hx
   exact hf.rel.len x d arr t fz (by simp only [W.h_mk]; rw [old x (ne x hx)]; exact hx) hd hh
  ·intro x kd g hx
   simp only [W.h_mk] at hx
   have q := hf.rel.gho x kd g (by simp only [W.h_mk]; rw [old x (ne x (be (n9 hx)))]; exact hx)
   exact q.step rfl rfl (zY _) (fun _ _ => rfl) (fun l hl => q.sep l (by simp only [W.h_mk] at hl ⊢; rw [old l (ne l hl)]; exact hl)) (fun l hl => q.dis l (by simp only [W.h_mk] at hl ⊢; rw [old l (ne l (be hl))]; exact hl))
 have hghost : ∀ l, ay (ac l h) ≠ none → ¬ ρ'.ft l c := by
  intro l hl
  have hne := ne l (be hl)
  obtain ⟨⟨kd, g⟩, hkg⟩ := Option.ne_none_iff_exists'.1 hl
  exact (hf.rel.gho l kd g (by simp only [W.h_mk]; rw [old l hne]; exact hkg)).sep key (by simp only [W.h_mk]; rw [af]; exact ho) hne.symm c hc
 refine ⟨⟨rel, Env.le_trans hA.le hf.le, ?_, hA.nx, Nat.le_trans hA.size hf.size, ?_, ?_, ?_, ?_, hf.os.trans hA.os, hf.tape.trans hA.tape, hf.output.trans hA.output⟩, ⟨c, hc, by omega, hlt, hor, hfresh, ?_, hlo, hghost⟩, same, ⟨c, hc, hge, hlt⟩, ?_⟩
 ·intro x
  by_cases e : x = key
  ·subst e; right; simp only [W.nx_mk]; omega
  ·rw [same x e]; exact hA.rng x
 ·rintro d ⟨x, hx, hro, hd⟩
  simp only [W.h_mk] at hx hro hd
  have hxk : ac x (bn key o h) ≠ .none := by rw [old x (ne x hx)]; exact hx
  rcases hf.own d ⟨x, hxk, by simp only [W.h_mk]; rw [old x (ne x hx)]; exact hro, by simp only [W.h_mk]; rw [old x (ne x hx)]; exact hd⟩ with q | q
  ·exact hA.own d q
  ·exact .inr (Nat.le_trans hA.size q)
 ·intro x d hx hd
  simp only [W.h_mk] at hx
  rw [same x (ne x hx)] at hd
  exact hA.keep x d hx hd
 ·intro d hd hn
  rw [hf.frame d (by omega) ?_]
  ·exact hA.frame d hd hn
  ·rintro ⟨x, hx, hro, hd'⟩
   rcases hA.own d ⟨x, hx, hro, hd'⟩ with e | e
   ·exact hn e
   ·omega
 ·intro x hx hl
  have q := hA.fts x hx hl
  by_cases e : x = key
  ·subst e
   omega
  ·have q2 := hf.fts x (by simp only [W.nx_mk]; omega) q.2
   exact ⟨q2.1.trans q.1, q.2⟩
 ·intro arr t fz hh
  exact hf.rel.len key c arr t fz (by simp only [W.h_mk]; rw [af]; exact ho) hc hh
 ·intro k p hp
  obtain ⟨d, q1, q2, q3, q4, q5, q6, q7, q8⟩ := hp.ex
  have hn : ¬ Own ρ (.mk h key) d := fun ⟨l, r1, _, r3⟩ => by
   rcases r3 with r3 | ⟨r3, r4⟩
   ·exact q5 l r1 r3
   ·exact q8 l r3 r4
  have hx := hf.frame d q3 hn
  have hle := hf.le _ _ q1
  refine ⟨⟨d, hle.1, q2, Nat.lt_of_lt_of_le q3 hf.size, by rw [hx]; exact q4.mono hf.le, ?_, ?_, q7, ?_⟩, ?_⟩
  ·intro l hl he
   simp only [W.h_mk] at hl
   rw [same l (ne l hl)] at he
   exact q5 l hl he
  ·intro arr t fz hh
   rw [hx] at hh
   rw [hle.2]
   exact q6 arr t fz hh
  ·intro l hl hfl
   simp only [W.h_mk] at hl
   have hl' : ac l (bn key o h) = ac l h := old l (ne l (be hl))
   rcases hf.own d ⟨l, by simp only [W.h_mk]; rw [hl']; exact be hl, by simp only [W.h_mk]; rw [hl']; exact ai6 hl, .inr ⟨by simp only [W.h_mk]; rw [hl']; exact hl, hfl⟩⟩ with e | e
   ·exact hn e
   ·omega
  ·rw [hle.1, hc]
   intro e
   injection e with e
   omega
end
end Go.Ev
set_option linter.all false
namespace Go.Ev
variable [Gv]
def aq5 (pm : PM) (ops : Array Oper) (j : Nat) (op : Op) (τ : F) (pend : List PF) (v : AV) : Prop := ∃ t a k off i ob, op = .load t a ∧ mt t = some none ∧ evX a τ = .ptr k off ∧ .mk i k ob ∈ pend ∧ tb (bo ops j) i = true ∧
 aay (fun x => xv (tb (bo ops x) i)) (ad2 pm ops) = true ∧ afx ob off = some v
theorem zn {pm : PM} {ops : Array Oper} {m off : Nat} {k : K} {v : AV} : ∀ {l : List PF}, agj pm ops m k off l = some v → ∃ i ob, PF.mk i k ob ∈ l ∧ tb m i = true ∧ aay (fun x => xv (tb (bo ops x) i)) (ad2 pm ops) = true ∧ afx ob off = some v
 | [], h => by cases h
 | .mk i k' o :: l, h => by
   unfold agj at h
   rw [aa] at h
   split at h
   ·rename_i hc
    simp only [zU] at hc
    obtain ⟨h1, h2, h3⟩ := hc
    have h1 := (K.beq_iff _ _).1 h1
    subst h1
    exact ⟨i, o, List.mem_cons_self .., h2, h3, h⟩
   ·obtain ⟨i', ob, a, b⟩ := zn h
    exact ⟨i', ob, zA _ a, b⟩
theorem ad5 {pm : PM} {ops : Array Oper} {j : Nat} {op : Op} {τ : F} {pend : List PF} {v : AV} (h : aca pm ops j op τ pend = some v) : aq5 pm ops j op τ pend v := by
 unfold aca at h
 split at h
 ·rename_i t a
  split at h
  ·rename_i k off h1 h2
   obtain ⟨i, ob, q⟩ := zn h
   exact ⟨t, a, k, off, i, ob, rfl, h1, h2, q⟩
  ·cases h
 ·cases h
def d6 (pm : PM) (ih : Ih) (ops : Array Oper) (nt j : Nat) (o : Oper) (s s' : DS) (v : AV) (b : Bool) (ob : AObj) : Prop :=
 s'.τ = md nt o.dst v s.τ ∧
 (match o.guard with | none => b = true | some g => jz g ops.toList s.τ = some b) ∧
 (b = false → v = ff) ∧
 (match cls pm o.op with
  | .pu => s'.w = s.w ∧ s'.fk = s.fk ∧ s'.pend = s.pend ∧ s'.hist = s.hist ∧ s'.recs = s.recs ∧ s'.pv = s.pv ∧ (b = true → ∀ a, zOp o.op s.τ a = .val v a)
  | .rd => s'.w = s.w ∧ s'.fk = s.fk ∧ s'.pend = s.pend ∧ s'.hist = s.hist ∧ (∀ r ∈ s.recs, r ∈ s'.recs) ∧ s'.pv = s.pv ∧ (b = true → (zOp o.op s.τ s.w = .val v s.w ∧ (pg pm ops j = true → .mk j o.op s.τ v ∈ s'.recs)) ∨ aq5 pm ops j o.op s.τ s.pend v)
  | .fl => s'.w = s.w ∧ s'.hist = s.hist ∧ s'.recs = s.recs ∧ (b = false → s'.fk = s.fk ∧ s'.pend = s.pend ∧ s'.pv = s.pv) ∧
     (b = true → s'.fk = s.fk.succ ∧ (isP pm j = false → s'.pend = .mk j s.fk ob :: s.pend ∧ s'.pv = s.pv) ∧ (isP pm j = true → s'.pend = s.pend ∧ s'.pv = .mk s.fk [] ∧ ob = .map []) ∧
       s.fk.isMax = false ∧ (ob ≠ .none ∧ ay ob = none ∧ ob.isRo = false) ∧ ∀ h, zOp o.op s.τ (.mk h s.fk) = .val v (.mk (bn s.fk ob h) s.fk.succ))
  | .mu => s'.w = s.w ∧ s'.fk = s.fk ∧ s'.pend = s.pend ∧ s'.hist = s.hist ∧ s'.recs = s.recs ∧ b = true ∧ v = ff ∧ ∃ t m x y k es, o.op = .insert t m x y ∧ s.pv = .mk k es ∧
     s'.pv = .mk k (es ++ [(evX x s.τ, evX y s.τ)]) ∧ kx t = true ∧ aeu t (evX x s.τ) = true ∧ evX m s.τ = .map k
  | .ef => s'.fk = s.fk ∧ s'.pend = rp (bo ops j) s.pend ∧ s'.hist = (j, s.w) :: s.hist ∧ s'.recs = s.recs ∧ s'.pv = s.pv ∧ (b = false → s'.w = cm (bo ops j) s.pend s.w) ∧
     (b = true → zOp o.op s.τ (cm (bo ops j) s.pend s.w) = .val v s'.w ∨ (∃ f vs W1, zOp o.op s.τ (cm (bo ops j) s.pend s.w) = .call f vs W1 ∧ enter ih f vs W1 = .ret v s'.w) ∨
       ∃ f vs W1 ch W2, zOp o.op s.τ (cm (bo ops j) s.pend s.w) = .call f vs W1 ∧ enter ih f vs W1 = .pan ch W2))
section
variable {pm : PM} {ih : Ih} {ops : Array Oper} {nt fn : Nat}
theorem ant {j : Nat} {o : Oper} {s s' : DS} (h : dGo pm ih ops j o nt fn s = .ok s') (hg : match o.guard with | none => True | some g => jz g ops.toList s.τ = some true) : ∃ v ob, d6 pm ih ops nt j o s s' v true ob := by
 obtain ⟨τ, w, fk, pend, hist, recs, pv⟩ := s
 have hg' : match o.guard with | none => true = true | some g => jz g ops.toList τ = some true := by
  cases ho : o.guard with
  | none => rfl
  | some g => rw [ho] at hg; exact hg
 unfold dGo at h
 unfold d6
 cases hc : cls pm o.op with
 | pu =>
   rw [hc] at h
   simp only [arq] at h
   split at h <;> cases h
   rename_i v a' he
   exact ⟨v, .none, rfl, hg', (fun e => Bool.noConfusion e), rfl, rfl, rfl, rfl, rfl, rfl, fun _ a => a3f (a4s hc) (ab4 he) a⟩
 | rd =>
   rw [hc] at h
   simp only [art] at h
   split at h <;> try (cases h; done)
   rotate_left
   ·split at h <;> cases h
    rename_i v hv
    exact ⟨v, .none, rfl, hg', (fun e => Bool.noConfusion e), rfl, rfl, rfl, rfl, fun r hr => hr, rfl, fun _ => .inr (ad5 hv)⟩
   cases h
   rename_i v a' he
   have he := ab4 he
   have hs := aof (a := w) (arj hc) τ
   rw [he] at hs
   have hs : a' = w := hs
   subst hs
   refine ⟨v, .none, rfl, hg', (fun e => Bool.noConfusion e), rfl, rfl, rfl, rfl, ?_, rfl, fun _ => .inl ⟨he, ?_⟩⟩
   ·intro r hr
    simp only [DS.recs, aa] at hr ⊢
    split
    ·exact zA _ hr
    ·exact hr
   ·intro hm
    simp only [DS.recs, DS.τ, aa]
    rw [if_pos hm]
    simp
 | fl =>
   rw [hc] at h
   simp only [ak5] at h
   split at h <;> try (cases h; done)
   rename_i v h' nx' he
   have he := ab4 he
   rcases asf (a4q hc) τ with ⟨ob, g, hob, hf⟩ | hf
   ·have hx := hf (.mk (hOf w) fk)
    rw [he] at hx
    have hx : OR.val v (.mk h' nx') = bc fk.isMax (.no 1) (.val (g fk) (.mk (bn fk ob (hOf w)) fk.succ)) := hx
    rw [aa] at hx
    split at hx
    ·cases hx
    rename_i hm
    have hm : fk.isMax = false := by simpa using hm
    injection hx with h1 h2
    injection h2 with h2 h3
    subst h1; subst h2; subst h3
    have last : ∀ hh : H4, zOp o.op τ (.mk hh fk) = .val (g fk) (.mk (bn fk ob hh) fk.succ) := by
     intro hh
     rw [hf]
     show bc fk.isMax (OR.no 1) (OR.val (g fk) (.mk (bn fk ob hh) fk.succ)) = _
     rw [hm]; rfl
    rw [aa] at h
    split at h
    ·rename_i hp
     rw [aa] at h
     split at h
     ·rename_i h0
      rw [af] at h0
      cases h
      have hob' : ob = .map [] := by
       unfold asv at h0
       split at h0
       ·rfl
       ·cases h0
      exact ⟨g fk, ob, rfl, hg', (fun e => Bool.noConfusion e), rfl, rfl, rfl, (fun e => Bool.noConfusion e), fun _ => ⟨rfl, (fun e => by rw [hp] at e; cases e), fun _ => ⟨rfl, rfl, hob'⟩, hm, hob, last⟩⟩
     ·cases h
    ·rename_i hp
     cases h
     refine ⟨g fk, ob, rfl, hg', (fun e => Bool.noConfusion e), rfl, rfl, rfl, (fun e => Bool.noConfusion e), fun _ => ⟨rfl, fun _ => ⟨?_, rfl⟩, (fun e => absurd e hp), hm, hob, last⟩⟩
     simp only [DS.pend, DS.fk]; rw [af]
   ·obtain ⟨c, hx⟩ := hf (.mk (hOf w) fk)
    rw [he] at hx; cases hx
 | mu =>
   rw [hc] at h
   cases pv with
   | none => cases h
   | mk k es =>
     simp only [dMu] at h
     split at h
     ·rename_i t m x y hop hgd
      rw [aa] at h
      split at h
      ·rename_i hcc
       cases h
       simp only [zU] at hcc
       obtain ⟨⟨c1, c2⟩, c3⟩ := hcc
       refine ⟨ff, .none, rfl, hg', (fun e => Bool.noConfusion e), rfl, rfl, rfl, rfl, rfl, rfl, rfl, t, m, x, y, k, es, hop, rfl, rfl, c1, c2, ?_⟩
       show evX m τ = .map k
       unfold anz at c3
       split at c3
       ·rename_i b hb; rw [hb, (K.beq_iff _ _).1 c3]
       ·cases c3
      ·cases h
     ·cases h
 | ef =>
   rw [hc] at h
   simp only [a0v] at h
   split at h
   ·rename_i v w' he
    cases h
    exact ⟨v, .none, rfl, hg', (fun e => Bool.noConfusion e), rfl, rfl, rfl, rfl, rfl, (fun e => Bool.noConfusion e), fun _ => .inl (ab4 he)⟩
   ·rename_i f vs w' he
    split at h
    ·rename_i v w'' hen
     cases h
     exact ⟨v, .none, rfl, hg', (fun e => Bool.noConfusion e), rfl, rfl, rfl, rfl, rfl, (fun e => Bool.noConfusion e), fun _ => .inr (.inl ⟨f, vs, w', age he, hen⟩)⟩
    ·cases h
    ·rw [aa] at h; split at h <;> cases h
   ·cases h
   ·cases h
theorem yz {j : Nat} {o : Oper} {s s' : DS} (h : n0 pm ih ops j o nt fn s = .ok s') : ∃ v b ob, d6 pm ih ops nt j o s s' v b ob := by
 unfold n0 at h
 cases hg : o.guard with
 | none =>
   rw [hg] at h
   obtain ⟨v, ob, hf⟩ := ant h (by rw [hg]; trivial)
   exact ⟨v, true, ob, hf⟩
 | some g =>
   rw [hg] at h
   dsimp only at h
   split at h
   ·rename_i hw
    obtain ⟨v, ob, hf⟩ := ant h (by rw [hg]; exact hw)
    exact ⟨v, true, ob, hf⟩
   ·rename_i hw
    refine ⟨ff, false, .none, ?_⟩
    obtain ⟨τ, w, fk, pend, hist, recs, pv⟩ := s
    unfold arv at h
    unfold d6
    rw [hg]
    cases hc : cls pm o.op <;> rw [hc] at h <;> cases h
    ·exact ⟨rfl, hw, fun _ => rfl, rfl, rfl, rfl, rfl, rfl, rfl, (fun e => Bool.noConfusion e)⟩
    ·exact ⟨rfl, hw, fun _ => rfl, rfl, rfl, rfl, rfl, fun r hr => hr, rfl, (fun e => Bool.noConfusion e)⟩
    ·exact ⟨rfl, hw, fun _ => rfl, rfl, rfl, rfl, fun _ => ⟨rfl, rfl, rfl⟩, (fun e => Bool.noConfusion e)⟩
    ·exact ⟨rfl, hw, fun _ => rfl, rfl, rfl, rfl, rfl, rfl, fun _ => rfl, (fun e => Bool.noConfusion e)⟩
   ·cases h
theorem az4 : ∀ (l : List Oper) (i : Nat) (s sN : DS), abf pm ih ops nt fn l i s = .ok sN → ∃ f : Nat → DS, f i = s ∧ f (i + l.length) = sN ∧ ∀ k o, l[k]? = some o → n0 pm ih ops (i + k) o nt fn (f (i + k)) = .ok (f (i + k + 1))
 | [], i, s, sN, h => by
   cases h
   exact ⟨fun _ => s, rfl, rfl, fun k o hk => by simp at hk⟩
 | o :: l, i, s, sN, h => by
   simp only [abf, arp] at h
   split at h
   ·rename_i s1 h1
    obtain ⟨f, f1, f2, f3⟩ := az4 l (i + 1) s1 sN h
    refine ⟨fun j => if j ≤ i then s else f j, by simp, ?_, ?_⟩
    ·simp only [zO]
     rw [if_neg (by omega), ← f2]
     congr 1
     omega
    ·intro k o' hk
     cases k with
     | zero =>
       simp at hk
       subst hk
       dsimp only
       rw [if_pos (by omega), if_neg (by omega), Nat.add_zero, f1]
       exact h1
     | succ k =>
       simp only [List.getElem?_cons_succ] at hk
       have := f3 k o' hk
       dsimp only
       rw [if_neg (by omega), if_neg (by omega)]
       have e : i + (k + 1) = i + 1 + k := by omega
       rw [e]
       exact this
   ·cases h
   ·cases h
theorem aqp {j : Nat} {o : Oper} {s : DS} (hg : match o.guard with | none => True | some g => jz g ops.toList s.τ = some true) : n0 pm ih ops j o nt fn s = dGo pm ih ops j o nt fn s := by
 unfold n0
 cases hgd : o.guard with
 | none => rfl
 | some g => rw [hgd] at hg; dsimp only at hg ⊢; rw [hg]
theorem yu {j : Nat} {o : Oper} {s s' : DS} (h : n0 pm ih ops j o nt fn s = .ok s') (hc : cls pm o.op = .ef) (hg : match o.guard with | none => True | some g => jz g ops.toList s.τ = some true) {f : FuncId} {vs : List AV} {W1 W2 : W} {ch : List PE}
  (h1 : zOp o.op s.τ (cm (bo ops j) s.pend s.w) = .call f vs W1) (h2 : enter ih f vs W1 = .pan ch W2) : False := by
 rw [aqp hg] at h
 obtain ⟨τ, w, fk, pend, hist, recs, pv⟩ := s
 unfold dGo at h
 rw [hc] at h
 have h1 : zOp o.op τ (cm (bo ops j) pend w) = .call f vs W1 := h1
 simp only [a0v] at h
 rw [asi, h1] at h
 dsimp only at h
 rw [h2] at h
 dsimp only at h
 rw [aa] at h
 split at h <;> cases h
theorem aj7 {j p : Nat} {o : Oper} {s s' : DS} {ch : List PE} {w2 : W} (h : n0 pm ih ops j o nt fn s = .pan ch w2 p s') : p = j ∧ pm = .none ∧ d6 pm ih ops nt j o s s' .top true .none ∧ cls pm o.op = .ef ∧
  ∃ f vs W1, zOp o.op s.τ (cm (bo ops j) s.pend s.w) = .call f vs W1 ∧ enter ih f vs W1 = .pan ch w2 := by
 have key : ∀ (hg : match o.guard with | none => True | some g => jz g ops.toList s.τ = some true), dGo pm ih ops j o nt fn s = .pan ch w2 p s' → p = j ∧ pm = .none ∧ d6 pm ih ops nt j o s s' .top true .none ∧ cls pm o.op = .ef ∧
   ∃ f vs W1, zOp o.op s.τ (cm (bo ops j) s.pend s.w) = .call f vs W1 ∧ enter ih f vs W1 = .pan ch w2 := by
  intro hg h
  obtain ⟨τ, w, fk, pend, hist, recs, pv⟩ := s
  have hg' : match o.guard with | none => true = true | some g => jz g ops.toList τ = some true := by
   cases ho : o.guard with
   | none => rfl
   | some g => rw [ho] at hg; exact hg
  unfold dGo at h
  unfold d6
  cases hc : cls pm o.op with
  | pu => rw [hc] at h; simp only [arq] at h; split at h <;> cases h
  | rd =>
    rw [hc] at h; simp only [art] at h; split at h <;> try (cases h; done)
    split at h <;> cases h
  | fl =>
    rw [hc] at h; simp only [ak5] at h; split at h <;> try (cases h; done)
    rw [aa] at h; split at h <;> try (cases h; done)
    rw [aa] at h; split at h <;> cases h
  | mu =>
    rw [hc] at h
    cases pv with
    | none => cases h
    | mk k es =>
      simp only [dMu] at h
      split at h
      ·rw [aa] at h; split at h <;> cases h
      ·cases h
  | ef =>
    rw [hc] at h
    simp only [a0v] at h
    split at h
    ·cases h
    ·rename_i f vs w' he
     split at h
     ·cases h
     ·cases h
     ·rename_i ch' w'' hen
      rw [aa] at h
      split at h
      ·rename_i hok
       injection h with h1 h2 h3 h4
       subst h1 h2 h3 h4
       have hpm : pm = .none := by cases pm <;> first | rfl | cases hok
       exact ⟨rfl, hpm, ⟨rfl, hg', (fun e => Bool.noConfusion e), rfl, rfl, rfl, rfl, rfl, (fun e => Bool.noConfusion e), fun _ => .inr (.inr ⟨f, vs, w', ch', w'', age he, hen⟩)⟩, rfl, f, vs, w', age he, hen⟩
      ·cases h
    ·cases h
    ·cases h
 unfold n0 at h
 cases hg : o.guard with
 | none => rw [hg] at h; exact key (by rw [hg]; trivial) h
 | some g =>
   rw [hg] at h
   dsimp only at h
   split at h
   ·rename_i hw; exact key (by rw [hg]; exact hw) h
   ·obtain ⟨τ, w, fk, pend, hist, recs, pv⟩ := s
    unfold arv at h
    cases hc : cls pm o.op <;> rw [hc] at h <;> cases h
   ·cases h
theorem afm {ch : List PE} {w2 : W} {p : Nat} {sP : DS} : ∀ (l : List Oper) (i : Nat) (s : DS), abf pm ih ops nt fn l i s = .pan ch w2 p sP →
  ∃ (f : Nat → DS) (k : Nat), f i = s ∧ p = i + k ∧ f (p + 1) = sP ∧ (∀ k' o, k' < k → l[k']? = some o → n0 pm ih ops (i + k') o nt fn (f (i + k')) = .ok (f (i + k' + 1))) ∧ ∃ o, l[k]? = some o ∧ n0 pm ih ops p o nt fn (f p) = .pan ch w2 p sP
 | [], _, _, h => by cases h
 | o :: l, i, s, h => by
   simp only [abf, arp] at h
   split at h
   ·rename_i s1 h1
    obtain ⟨f, k, f1, f2, f3, f4, o', f5, f6⟩ := afm l (i + 1) s1 h
    refine ⟨fun j => if j ≤ i then s else f j, k + 1, by simp, by omega, ?_, ?_, o', by simpa using f5, ?_⟩
    ·dsimp only; rw [if_neg (by omega)]; exact f3
    ·intro k' o'' hk hl
     cases k' with
     | zero =>
       simp at hl
       subst hl
       dsimp only
       rw [if_pos (by omega), if_neg (by omega), Nat.add_zero, f1]
       exact h1
     | succ k' =>
       simp only [List.getElem?_cons_succ] at hl
       have := f4 k' o'' (by omega) hl
       dsimp only
       rw [if_neg (by omega), if_neg (by omega)]
       have e : i + (k' + 1) = i + 1 + k' := by omega
       rw [e]
       exact this
    ·dsimp only; rw [if_neg (by omega)]; exact f6
   ·rename_i ch' w' p' s' h1
    injection h with e1 e2 e3 e4
    subst e1 e2 e3 e4
    have hp := (aj7 h1).1
    refine ⟨fun j => if j ≤ i then s else s', 0, by simp, by omega, ?_, fun k' o' hk => by omega, o, by simp, ?_⟩
    ·dsimp only; rw [if_neg (by omega)]
    ·dsimp only; rw [if_pos (by omega), hp]; rw [hp] at h1; exact h1
   ·cases h
theorem aih {opsT : Array Oper} {j : Nat} {o : Oper} {s s' : DS} {v : AV} {b : Bool} {ob : AObj} (h : d6 pm ih ops nt j o s s' v b ob) (hb : bo ops j = bo opsT j) (hm : pg pm opsT j = true → pg pm ops j = true)
  (hw : ∀ g, o.guard = some g → jz g ops.toList s.τ = jz g opsT.toList s.τ) (hx : ∀ x ∈ ad2 pm opsT, x ∈ ad2 pm ops ∧ bo ops x = bo opsT x) : d6 pm ih opsT nt j o s s' v b ob := by
 unfold d6 at h ⊢
 rw [← hb]
 obtain ⟨h1, h2, h3, h4⟩ := h
 refine ⟨h1, ?_, h3, ?_⟩
 ·cases hg : o.guard with
  | none => rw [hg] at h2; exact h2
  | some g => rw [hg] at h2; dsimp only at h2 ⊢; rw [← hw g hg]; exact h2
 ·cases hc : cls pm o.op with
  | rd =>
    rw [hc] at h4
    obtain ⟨q1, q2, q3, q4, q5, q6, q7⟩ := h4
    refine ⟨q1, q2, q3, q4, q5, q6, fun e => (q7 e).elim (fun q => .inl ⟨q.1, fun m => q.2 (hm m)⟩) fun q => .inr ?_⟩
    obtain ⟨t, a, k, off, i, ob, z1, z2, z3, z4, z5, z6, z7⟩ := q
    refine ⟨t, a, k, off, i, ob, z1, z2, z3, z4, by rw [← hb]; exact z5, ?_, z7⟩
    rw [rc] at z6 ⊢
    intro x hx'
    obtain ⟨y1, y2⟩ := hx x hx'
    rw [← y2]; exact z6 x y1
  | pu => rw [hc] at h4; exact h4
  | fl => rw [hc] at h4; exact h4
  | ef => rw [hc] at h4; exact h4
  | mu => rw [hc] at h4; exact h4
structure Tr (pm : PM) (ih : Ih) (ops : Array Oper) (nt : Nat) (s : Nat → DS) (val : Nat → AV) (wt : Nat → Bool) (obj : Nat → AObj) (h0 : H4) (nx0 nx1 : K) : Prop where
 fact : ∀ j o, ops[j]? = some o → d6 pm ih ops nt j o (s j) (s (j + 1)) (val j) (wt j) (obj j)
 drawn : Drawn pm ops
 w0 : (s 0).w = .mk h0 nx1
 fk0 : (s 0).fk = nx0
 pend0 : (s 0).pend = []
 num : nx0.num + l8 pm ops.toList ≤ nx1.num
 pv0 : (s 0).pv = .none
 pmd : ∀ i d, pm = .mk i d → ∃ o, ops[i]? = some o ∧ o.dst = some d ∧ cls pm o.op = .fl
 apt : noP pm = false → azf (s ops.size).pv = true
 recs : ul pm ops (s ops.size).recs ((ops.size, (s ops.size).w) :: (s ops.size).hist) = true
noncomputable def a2r (o : Oper) (τ : F) : AV × AV := match o.op with
 | .insert _ _ x y => (evX x τ, evX y τ)
 | _ => (.top, .top)
def a71 : CL → Bool
 | .mu => true
 | _ => false
def MU (pm : PM) (ops : Array Oper) (x : Nat) : Prop := ∃ o, ops[x]? = some o ∧ cls pm o.op = .mu
noncomputable def wa (pm : PM) (ops : Array Oper) (s : Nat → DS) (n : Nat) : List (AV × AV) := match ops[n]? with
 | some o => bif a71 (cls pm o.op) then [a2r o (s n).τ] else []
 | none => []
noncomputable def dn (pm : PM) (ops : Array Oper) (s : Nat → DS) (L : Nat → Bool) : Nat → List (AV × AV)
 | 0 => []
 | n + 1 => bif L n then dn pm ops s L n ++ wa pm ops s n else dn pm ops s L n
variable {s : Nat → DS} {val : Nat → AV} {wt : Nat → Bool} {obj : Nat → AObj} {h0 : H4} {nx0 nx1 : K}
def E (pm : PM) (ops : Array Oper) (x : Nat) : Prop := ∃ o, ops[x]? = some o ∧ cls pm o.op = .ef
def FW (pm : PM) (ops : Array Oper) (wt : Nat → Bool) (x : Nat) : Prop := wt x = true ∧ ∃ o, ops[x]? = some o ∧ cls pm o.op = .fl
theorem E.size {x : Nat} (h : E pm ops x) : x < ops.size := by obtain ⟨o, h, _⟩ := h; exact (zI.1 h).1
theorem lu {j : Nat} (h : j < ops.size) : ∃ o, ops[j]? = some o := ⟨_, Array.getElem?_eq_getElem h⟩
theorem Tr.w_step (T : Tr pm ih ops nt s val wt obj h0 nx0 nx1) {j : Nat} (hj : j < ops.size) (hn : ¬ E pm ops j) : (s (j + 1)).w = (s j).w := by
 obtain ⟨o, ho⟩ := lu hj
 have := T.fact j o ho
 unfold d6 at this
 obtain ⟨_, _, _, h⟩ := this
 cases hc : cls pm o.op with
 | ef => exact absurd ⟨o, ho, hc⟩ hn
 | pu => rw [hc] at h; exact h.1
 | rd => rw [hc] at h; exact h.1
 | fl => rw [hc] at h; exact h.1
 | mu => rw [hc] at h; exact h.1
theorem Tr.w_const (T : Tr pm ih ops nt s val wt obj h0 nx0 nx1) {e : Nat} : ∀ j, e ≤ j → j ≤ ops.size → (∀ x, e ≤ x → x < j → ¬ E pm ops x) → (s j).w = (s e).w
 | 0, h, _, _ => by have : e = 0 := by omega
                    rw [this]
 | j + 1, h, hn, hx => by
   rcases Nat.lt_or_ge j e with h1 | h1
   ·have : e = j + 1 := by omega
    rw [this]
   ·rw [T.w_step (by omega) (hx j h1 (by omega)), T.w_const j h1 (by omega) fun x a b => hx x a (by omega)]
theorem xk {m : Nat} {p : PF} : ∀ {l : List PF}, p ∈ rp m l → p ∈ l ∧ tb m p.i = false
 | .mk i k o :: l, h => by
   simp only [rp, aa] at h
   split at h
   ·have := xk h; exact ⟨zA _ this.1, this.2⟩
   ·rename_i hb
    rcases List.mem_cons.1 h with e | e
    ·subst e; exact ⟨by simp, Bool.eq_false_iff.2 hb⟩
    ·have := xk e; exact ⟨zA _ this.1, this.2⟩
theorem yx {m : Nat} {R : PF → PF → Prop} : ∀ {l : List PF}, l.Pairwise R → (rp m l).Pairwise R
 | [], _ => List.Pairwise.nil
 | .mk i k o :: l, h => by
   obtain ⟨h1, h2⟩ := List.pairwise_cons.1 h
   simp only [rp, aa]
   split
   ·exact yx h2
   ·exact List.pairwise_cons.2 ⟨fun p hp => h1 p (xk hp).1, yx h2⟩
theorem Tr.pend (T : Tr pm ih ops nt s val wt obj h0 nx0 nx1) : ∀ j, j ≤ ops.size →
  (∀ p ∈ (s j).pend, p.i < j ∧ FW pm ops wt p.i ∧ (∀ x, x < j → E pm ops x → bu ops p.i x = false) ∧ p.k = (s p.i).fk ∧ p.o = obj p.i ∧ isP pm p.i = false) ∧ (s j).pend.Pairwise (fun p q => q.i < p.i)
 | 0, _ => by rw [T.pend0]; exact ⟨fun p hp => (by cases hp), List.Pairwise.nil⟩
 | j + 1, hj => by
   obtain ⟨h1, h2⟩ := T.pend j (by omega)
   obtain ⟨o, ho⟩ := lu (ops := ops) (j := j) (by omega)
   have hf := T.fact j o ho
   unfold d6 at hf
   obtain ⟨_, _, _, hf⟩ := hf
   have keep : ¬ E pm ops j → (s (j + 1)).pend = (s j).pend → (∀ p ∈ (s (j + 1)).pend, p.i < j + 1 ∧ FW pm ops wt p.i ∧ (∀ x, x < j + 1 → E pm ops x → bu ops p.i x = false) ∧ p.k = (s p.i).fk ∧ p.o = obj p.i ∧ isP pm p.i = false) ∧ (s (j + 1)).pend.Pairwise (fun p q => q.i < p.i) := by
    intro hE he
    rw [he]
    refine ⟨fun p hp => ?_, h2⟩
    obtain ⟨q1, q2, q3, q4⟩ := h1 p hp
    refine ⟨by omega, q2, fun x hx hEx => ?_, q4⟩
    rcases Nat.lt_or_ge x j with h | h
    ·exact q3 x h hEx
    ·have : x = j := by omega
     subst this; exact absurd hEx hE
   have notE : cls pm o.op ≠ .ef → ¬ E pm ops j := by rintro hne ⟨o', ho', hc'⟩; rw [ho] at ho'; cases ho'; exact hne hc'
   cases hc : cls pm o.op with
   | pu => rw [hc] at hf; exact keep (notE (by rw [hc]; simp)) hf.2.2.1
   | rd => rw [hc] at hf; exact keep (notE (by rw [hc]; simp)) hf.2.2.1
   | mu => rw [hc] at hf; exact keep (notE (by rw [hc]; simp)) hf.2.2.1
   | fl =>
     rw [hc] at hf
     obtain ⟨_, _, _, f1, f2⟩ := hf
     cases hb : wt j with
     | false => exact keep (notE (by rw [hc]; simp)) (f1 hb).2.1
     | true =>
       cases hpj : isP pm j with
       | true => exact keep (notE (by rw [hc]; simp)) ((f2 hb).2.2.1 hpj).1
       | false =>
       obtain ⟨_, f3, _⟩ := f2 hb
       rw [(f3 hpj).1]
       refine ⟨fun p hp => ?_, List.pairwise_cons.2 ⟨fun p hp => (h1 p hp).1, h2⟩⟩
       rcases List.mem_cons.1 hp with e | e
       ·subst e
        refine ⟨by simp [PF.i], ⟨hb, o, ho, hc⟩, fun x hx hEx => ?_, rfl, rfl, hpj⟩
        show bu ops j x = false
        cases hbf : bu ops j x with
        | false => rfl
        | true =>
          exfalso
          rcases Nat.lt_or_ge x j with h | h
          ·have hcl : fb ops (fun i => decide (i ≤ x)) := by
            intro y oy hy hL e he hb
            have := T.drawn.edge y oy hy e he hb
            have hL := of_decide_eq_true hL
            exact decide_eq_true (by omega)
           have := ca hcl hbf (decide_eq_true (zY x))
           have := of_decide_eq_true this
           omega
          ·have : x = j := by omega
           subst this
           exact notE (by rw [hc]; simp) hEx
       ·obtain ⟨q1, q2, q3, q4⟩ := h1 p e
        refine ⟨by omega, q2, fun x hx hEx => ?_, q4⟩
        rcases Nat.lt_or_ge x j with h | h
        ·exact q3 x h hEx
        ·have : x = j := by omega
         subst this; exact absurd hEx (notE (by rw [hc]; simp))
   | ef =>
     rw [hc] at hf
     obtain ⟨_, f1, _⟩ := hf
     rw [f1]
     refine ⟨fun p hp => ?_, yx h2⟩
     obtain ⟨m1, m2⟩ := xk hp
     obtain ⟨q1, q2, q3, q4⟩ := h1 p m1
     refine ⟨by omega, q2, fun x hx hEx => ?_, q4⟩
     rcases Nat.lt_or_ge x j with h | h
     ·exact q3 x h hEx
     ·have : x = j := by omega
      subst this; exact m2
theorem za (B p : Nat) : ∀ (l : List Oper) (j i : Nat), (ke B p l j)[i]? = (l[i]?).map fun o => bif tb (fld B (j + i)) p then dummy else o
 | [], _, _ => by simp [ke]
 | o :: l, j, 0 => by simp only [ke, List.getElem?_cons_zero, Option.map_some, Nat.add_zero, aa]; cases tb (fld B j) p <;> rfl
 | o :: l, j, i + 1 => by
   simp only [ke, List.getElem?_cons_succ]
   rw [za B p l (Nat.succ j) i, show Nat.succ j + i = j + (i + 1) by omega]
theorem zb (B p : Nat) : ∀ (l : List Oper) (j : Nat), (ke B p l j).length = l.length
 | [], _ => rfl
 | o :: l, j => by simp [ke, zb B p l]
theorem xu (ops : Array Oper) (p j : Nat) : (cv ops p)[j]? = (ops[j]?).map fun o => bif bu ops p j then dummy else o := by
 unfold cv
 rw [zL, za, Nat.zero_add]
 simp only [Array.getElem?_toList]
 rfl
theorem akv (ops : Array Oper) (p : Nat) : (cv ops p).size = ops.size := by
 unfold cv
 simp [zb]
theorem ahu (B p : Nat) : ∀ (l : List Oper) (j : Nat), l8 .none (ke B p l j) ≤ l8 .none l
 | [], _ => zY _
 | o :: l, j => by
   have ih := ahu B p l (Nat.succ j)
   simp only [ke, l8, aa]
   cases tb (fld B j) p with
   | true =>
     simp only [if_true]
     have : a7z (cls .none dummy.op) = false := rfl
     rw [this]
     simp only [zF, if_false]
     split <;> omega
   | false =>
     simp only [zF, if_false]
     split <;> omega
theorem aly {i : Nat} (h : isP pm i = true) : ∃ d, pm = .mk i d := by
 cases pm with
 | none => cases h
 | mk i' d => have h : Nat.beq i' i = true := h; rw [zW h]; exact ⟨d, rfl⟩
theorem agp {i i' : Nat} (h : isP pm i = true) (h' : isP pm i' = true) : i = i' := by
 obtain ⟨d, rfl⟩ := aly h
 exact zW h'
theorem abk {x : Nat} (h : ¬ MU pm ops x) : wa pm ops s x = [] := by
 unfold wa
 split
 ·rename_i o ho
  cases hm : a71 (cls pm o.op) with
  | false => rfl
  | true =>
    exfalso
    refine h ⟨o, ho, ?_⟩
    cases hc : cls pm o.op <;> rw [hc] at hm <;> first | rfl | cases hm
 ·rfl
theorem ann {x : Nat} {o : Oper} (ho : ops[x]? = some o) (h : cls pm o.op = .mu) : wa pm ops s x = [a2r o (s x).τ] := by
 unfold wa; rw [ho]; dsimp only; rw [h]; rfl
theorem abl {L L' : Nat → Bool} : ∀ n, (∀ i, i < n → L i = L' i) → dn pm ops s L n = dn pm ops s L' n
 | 0, _ => rfl
 | n + 1, h => by simp only [dn, abl n fun i hi => h i (by omega), h n (by omega)]
theorem aag {L : Nat → Bool} {j : Nat} (h : ¬ MU pm ops j) : ∀ n, dn pm ops s (upL L j) n = dn pm ops s L n
 | 0 => rfl
 | n + 1 => by
   simp only [dn, aag h n]
   by_cases e : n = j
   ·subst e; rw [abk h]; simp
   ·rw [az L e]
theorem a30 {L : Nat → Bool} {j : Nat} (hL : L j = false) : ∀ n, j < n → (dn pm ops s (upL L j) n).Perm (dn pm ops s L n ++ wa pm ops s j)
 | n + 1, hj => by
   simp only [dn]
   by_cases e : n = j
   ·subst e
    rw [fx, hL, abl (L' := L) n fun i hi => az L (by omega)]
    exact List.Perm.refl _
   ·have ih := a30 hL n (by omega)
    rw [az L e]
    cases L n with
    | false => exact ih
    | true =>
      simp only [cond_true]
      refine (ih.append_right _).trans ?_
      rw [List.append_assoc, List.append_assoc]
      exact List.Perm.append_left _ List.perm_append_comm
theorem abm {L : Nat → Bool} {e : AV × AV} : ∀ n, e ∈ dn pm ops s L n → ∃ i, i < n ∧ L i = true ∧ e ∈ wa pm ops s i
 | n + 1, h => by
   simp only [dn] at h
   cases hl : L n with
   | false =>
     rw [hl] at h
     obtain ⟨i, h1, h2⟩ := abm n h
     exact ⟨i, by omega, h2⟩
   | true =>
     rw [hl] at h
     rcases List.mem_append.1 h with h | h
     ·obtain ⟨i, h1, h2⟩ := abm n h
      exact ⟨i, by omega, h2⟩
     ·exact ⟨n, by omega, hl, h⟩
theorem af2 {L : Nat → Bool} {j : Nat} : ∀ n, j ≤ n → ∃ r, dn pm ops s L n = dn pm ops s L j ++ r
 | 0, h => ⟨[], by have : j = 0 := by omega
                   subst this; simp⟩
 | n + 1, h => by
   rcases Nat.lt_or_ge n j with q | q
   ·have : j = n + 1 := by omega
    subst this; exact ⟨[], by simp⟩
   ·obtain ⟨r, hr⟩ := af2 (L := L) n q
    simp only [dn]
    cases L n with
    | false => exact ⟨r, hr⟩
    | true => exact ⟨r ++ wa pm ops s n, by simp only [cond_true, hr, List.append_assoc]⟩
theorem agz {x : Nat} {e : AV × AV} (h : e ∈ wa pm ops s x) : MU pm ops x := Classical.byContradiction fun hn => by rw [abk hn] at h; cases h
theorem Tr.pv (T : Tr pm ih ops nt s val wt obj h0 nx0 nx1) : ∀ j, j ≤ ops.size → ((s j).pv = .none ∧ ∀ x, x < j → ¬ MU pm ops x) ∨
  ∃ i, isP pm i = true ∧ i < j ∧ FW pm ops wt i ∧ (s j).pv = .mk (s i).fk (dn pm ops s (fun _ => true) j)
 | 0, _ => .inl ⟨T.pv0, fun x h => by omega⟩
 | j + 1, hj => by
   have ih := T.pv j (by omega)
   obtain ⟨o, ho⟩ := lu (ops := ops) (j := j) (by omega)
   have hf := T.fact j o ho
   unfold d6 at hf
   obtain ⟨_, _, _, hf⟩ := hf
   have keep : cls pm o.op ≠ .mu → (s (j + 1)).pv = (s j).pv → ((s (j + 1)).pv = .none ∧ ∀ x, x < j + 1 → ¬ MU pm ops x) ∨
     ∃ i, isP pm i = true ∧ i < j + 1 ∧ FW pm ops wt i ∧ (s (j + 1)).pv = .mk (s i).fk (dn pm ops s (fun _ => true) (j + 1)) := by
    intro hne he
    have hM : ¬ MU pm ops j := by rintro ⟨o', ho', hc'⟩; rw [ho] at ho'; cases ho'; exact hne hc'
    rw [he]
    rcases ih with ⟨h1, h2⟩ | ⟨i, h1, h2, h3, h4⟩
    ·refine .inl ⟨h1, fun x hx => ?_⟩
     rcases Nat.lt_or_ge x j with h | h
     ·exact h2 x h
     ·have : x = j := by omega
      subst this; exact hM
    ·refine .inr ⟨i, h1, by omega, h3, ?_⟩
     rw [h4]
     simp only [dn, cond_true, abk hM, List.append_nil]
   cases hc : cls pm o.op with
   | pu => rw [hc] at hf; exact keep (by rw [hc]; simp) hf.2.2.2.2.2.1
   | rd => rw [hc] at hf; exact keep (by rw [hc]; simp) hf.2.2.2.2.2.1
   | ef => rw [hc] at hf; exact keep (by rw [hc]; simp) hf.2.2.2.2.1
   | fl =>
     rw [hc] at hf
     obtain ⟨_, _, _, f1, f2⟩ := hf
     cases hb : wt j with
     | false => exact keep (by rw [hc]; simp) (f1 hb).2.2
     | true =>
       cases hp : isP pm j with
       | false => exact keep (by rw [hc]; simp) ((f2 hb).2.1 hp).2
       | true =>
         have hM : ¬ MU pm ops j := by rintro ⟨o', ho', hc'⟩; rw [ho] at ho'; cases ho'; rw [hc] at hc'; cases hc'
         rcases ih with ⟨h1, h2⟩ | ⟨i, h1, h2, h3, h4⟩
         ·refine .inr ⟨j, hp, by omega, ⟨hb, o, ho, hc⟩, ?_⟩
          rw [((f2 hb).2.2.1 hp).2.1]
          have : dn pm ops s (fun _ => true) (j + 1) = [] := by
           rw [List.eq_nil_iff_forall_not_mem]
           intro e he
           obtain ⟨i, q1, _, q3⟩ := abm _ he
           rcases Nat.lt_or_ge i j with h | h
           ·exact h2 i h (agz q3)
           ·have : i = j := by omega
            subst this; exact hM (agz q3)
          rw [this]
         ·have := agp h1 hp
          omega
   | mu =>
     rw [hc] at hf
     obtain ⟨_, _, _, _, _, _, _, t, m, x, y, k, es, hop, hp1, hp2, _⟩ := hf
     rcases ih with ⟨h1, h2⟩ | ⟨i, h1, h2, h3, h4⟩
     ·rw [h1] at hp1; cases hp1
     ·refine .inr ⟨i, h1, by omega, h3, ?_⟩
      rw [h4] at hp1
      injection hp1 with e1 e2
      rw [hp2, ← e1, ← e2]
      simp only [dn, cond_true, ann ho hc]
      unfold a2r
      rw [hop]
theorem Tr.mu_done (T : Tr pm ih ops nt s val wt obj h0 nx0 nx1) {L : Nat → Bool} (hc : fb ops L) {i j : Nat} (hp : isP pm i = true) (hM : MU pm ops j) (hL : L j = true) : L i = true := by
 obtain ⟨o, ho, hm⟩ := hM
 have hj := (zI.1 ho).1
 have hf := T.fact j o ho
 unfold d6 at hf
 obtain ⟨_, _, _, hf⟩ := hf
 rw [hm] at hf
 obtain ⟨_, _, _, _, _, _, _, _, _, _, _, k, es, _, hp1, _, _⟩ := hf
 rcases T.pv j (by omega) with ⟨q, _⟩ | ⟨i', h1, h2, h3, h4⟩
 ·rw [q] at hp1; cases hp1
 ·have := agp hp h1
  subst this
  obtain ⟨i2, t, d, x, y, e1, e2⟩ := a4r hm
  obtain ⟨d', e3⟩ := aly hp
  rw [e1] at e3
  injection e3 with e3 e4
  subst e3 e4
  obtain ⟨oi, q1, q2, q3⟩ := T.pmd _ _ e1
  have hbf := (T.drawn.tmp i2 j oi o d (by omega) q1 ho q2 (by
   unfold lx
   refine List.mem_append_left _ (vi ?_)
   rw [e2]; simp [Op.operands])).1 h2
  exact ca hc hbf hL
theorem Tr.dn_nil (T : Tr pm ih ops nt s val wt obj h0 nx0 nx1) {L : Nat → Bool} (hc : fb ops L) {i : Nat} (hp : isP pm i = true) (hL : L i = false) (n : Nat) : dn pm ops s L n = [] := by
 rw [List.eq_nil_iff_forall_not_mem]
 intro e he
 obtain ⟨x, _, q2, q3⟩ := abm _ he
 have := T.mu_done hc hp (agz q3) q2
 rw [hL] at this; cases this
theorem aht {a b : AV} (h : aeb a b = true) : l7 a b = some false ∧ l7 b a = some false := by
 unfold aeb at h
 split at h
 ·rename_i h1 h2; exact ⟨h1, h2⟩
 ·cases h
theorem vp {a : AV} : ∀ {l : List (AV × AV)}, vo a l = true → ∀ e ∈ l, aeb a e.1 = true
 | x :: l, h, e, he => by
   simp only [vo] at h
   obtain ⟨h1, h2⟩ := bc_and.1 h
   rcases List.mem_cons.1 he with q | q
   ·subst q; exact h1
   ·exact vp h2 e q
theorem acr : ∀ {l : List (AV × AV)}, ajq l = true → l.Pairwise (fun e f => aeb e.1 f.1 = true)
 | [], _ => List.Pairwise.nil
 | x :: l, h => by
   simp only [ajq] at h
   obtain ⟨h1, h2⟩ := bc_and.1 h
   exact List.pairwise_cons.2 ⟨fun e he => vp h1 e he, acr h2⟩
theorem Tr.far (T : Tr pm ih ops nt s val wt obj h0 nx0 nx1) {i : Nat} (hp : isP pm i = true) (hi : FW pm ops wt i) {x y : Nat} (hlt : x < y) (hy : y < ops.size) {e f : AV × AV} (he : e ∈ wa pm ops s x) (hf : f ∈ wa pm ops s y) : aeb e.1 f.1 = true := by
 have hpv : azf (s ops.size).pv = true := T.apt (by obtain ⟨d, rfl⟩ := aly hp; rfl)
 rcases T.pv ops.size (zY _) with ⟨_, q⟩ | ⟨i', _, _, _, h4⟩
 ·exact absurd (agz hf) (q y hy)
 ·rw [h4] at hpv
  have hpw := acr (show ajq _ = true from hpv)
  obtain ⟨r, hr⟩ := af2 (pm := pm) (ops := ops) (s := s) (L := fun _ => true) (j := y + 1) ops.size (by omega)
  rw [hr] at hpw
  have h1 := (List.pairwise_append.1 hpw).1
  simp only [dn, cond_true] at h1
  refine (List.pairwise_append.1 h1).2.2 e ?_ f hf
  obtain ⟨r', hr'⟩ := af2 (pm := pm) (ops := ops) (s := s) (L := fun _ => true) (j := x + 1) y (by omega)
  rw [hr']
  simp only [dn, cond_true]
  exact List.mem_append_left _ (List.mem_append_right _ he)
theorem Tr.fk_step (T : Tr pm ih ops nt s val wt obj h0 nx0 nx1) {j : Nat} {o : Oper} (ho : ops[j]? = some o) : (s (j + 1)).fk = (s j).fk ∨ (cls pm o.op = .fl ∧ (s (j + 1)).fk.num = (s j).fk.num + 1) := by
 have hf := T.fact j o ho
 unfold d6 at hf
 obtain ⟨_, _, _, hf⟩ := hf
 cases hc : cls pm o.op with
 | pu => rw [hc] at hf; exact .inl hf.2.1
 | rd => rw [hc] at hf; exact .inl hf.2.1
 | ef => rw [hc] at hf; exact .inl hf.1
 | mu => rw [hc] at hf; exact .inl hf.2.1
 | fl =>
   rw [hc] at hf
   obtain ⟨_, _, _, f1, f2⟩ := hf
   cases hb : wt j with
   | false => exact .inl (f1 hb).1
   | true => obtain ⟨f3, _, _, f4, _⟩ := f2 hb; rw [f3, K.succ_num f4]; exact .inr ⟨rfl, rfl⟩
theorem Tr.fk_fw (T : Tr pm ih ops nt s val wt obj h0 nx0 nx1) {j : Nat} (h : FW pm ops wt j) : (s (j + 1)).fk.num = (s j).fk.num + 1 := by
 obtain ⟨hb, o, ho, hc⟩ := h
 have hf := T.fact j o ho
 unfold d6 at hf
 obtain ⟨_, _, _, hf⟩ := hf
 rw [hc] at hf
 obtain ⟨_, _, _, _, f2⟩ := hf
 obtain ⟨f3, _, _, f4, _⟩ := f2 hb
 rw [f3, K.succ_num f4]
theorem Tr.fk_mono (T : Tr pm ih ops nt s val wt obj h0 nx0 nx1) {i : Nat} : ∀ j, i ≤ j → j ≤ ops.size → (s i).fk.num ≤ (s j).fk.num
 | 0, h, _ => by have : i = 0 := by omega
                 rw [this]; exact zY _
 | j + 1, h, hj => by
   rcases Nat.lt_or_ge j i with h1 | h1
   ·have : i = j + 1 := by omega
    rw [this]; exact zY _
   ·have ih := T.fk_mono j h1 (by omega)
    obtain ⟨o, ho⟩ := lu (ops := ops) (j := j) (by omega)
    rcases T.fk_step ho with e | ⟨_, e⟩
    ·rw [e]; exact ih
    ·omega
theorem Tr.fk_bound (T : Tr pm ih ops nt s val wt obj h0 nx0 nx1) : ∀ j, j ≤ ops.size → (s j).fk.num + l8 pm (ops.toList.drop j) ≤ nx1.num
 | 0, _ => by rw [T.fk0]; simpa using T.num
 | j + 1, hj => by
   have ih := T.fk_bound j (by omega)
   obtain ⟨o, ho⟩ := lu (ops := ops) (j := j) (by omega)
   have hd : ops.toList.drop j = o :: ops.toList.drop (j + 1) := by
    rw [List.drop_eq_getElem_cons (by simpa using (zI.1 ho).1)]
    congr 1
    have := (zI.1 ho).2
    simpa using this
   rw [hd] at ih
   simp only [l8, aa] at ih
   rcases T.fk_step ho with e | ⟨e1, e⟩
   ·rw [e]
    split at ih <;> omega
   ·rw [if_pos (by rw [e1]; rfl)] at ih
    omega
theorem Tr.key_lt (T : Tr pm ih ops nt s val wt obj h0 nx0 nx1) {j : Nat} (h : FW pm ops wt j) : nx0.num ≤ (s j).fk.num ∧ (s j).fk.num < nx1.num := by
 obtain ⟨o, ho, hc⟩ := h.2
 have hj := (zI.1 ho).1
 have h1 := T.fk_mono (i := 0) j (by omega) (by omega)
 rw [T.fk0] at h1
 have h2 := T.fk_bound (j + 1) (by omega)
 have h3 := T.fk_fw h
 omega
theorem Tr.key_inj (T : Tr pm ih ops nt s val wt obj h0 nx0 nx1) {i j : Nat} (hi : FW pm ops wt i) (hj : FW pm ops wt j) (h : (s i).fk = (s j).fk) : i = j := by
 have lt : ∀ {i j}, FW pm ops wt i → FW pm ops wt j → i < j → (s i).fk ≠ (s j).fk := by
  intro i j hi hj hlt e
  obtain ⟨o, ho, _⟩ := hj.2
  have hj' := (zI.1 ho).1
  have h1 := T.fk_mono (i := i + 1) j (by omega) (by omega)
  have h2 := T.fk_fw hi
  rw [e] at h2
  omega
 rcases Nat.lt_trichotomy i j with h1 | h1 | h1
 ·exact absurd h (lt hi hj h1)
 ·exact h1
 ·exact absurd h.symm (lt hj hi h1)
theorem Tr.hist (T : Tr pm ih ops nt s val wt obj h0 nx0 nx1) {x : Nat} (hx : E pm ops x) : ∀ j, x < j → j ≤ ops.size → (x, (s x).w) ∈ (s j).hist
 | j + 1, h, hj => by
   obtain ⟨o, ho⟩ := lu (ops := ops) (j := j) (by omega)
   have hf := T.fact j o ho
   unfold d6 at hf
   obtain ⟨_, _, _, hf⟩ := hf
   rcases Nat.lt_or_ge x j with h1 | h1
   ·have ih := T.hist hx j h1 (by omega)
    cases hc : cls pm o.op with
    | pu => rw [hc] at hf; rw [hf.2.2.2.1]; exact ih
    | rd => rw [hc] at hf; rw [hf.2.2.2.1]; exact ih
    | mu => rw [hc] at hf; rw [hf.2.2.2.1]; exact ih
    | fl => rw [hc] at hf; rw [hf.2.1]; exact ih
    | ef => rw [hc] at hf; rw [hf.2.2.1]; exact zA _ ih
   ·have : x = j := by omega
    subst this
    obtain ⟨o', ho', hc⟩ := hx
    rw [ho] at ho'; cases ho'
    rw [hc] at hf
    rw [hf.2.2.1]
    simp
theorem Tr.rec_mem (T : Tr pm ih ops nt s val wt obj h0 nx0 nx1) {r : RC} {i : Nat} : ∀ j, i ≤ j → j ≤ ops.size → r ∈ (s i).recs → r ∈ (s j).recs
 | 0, h, _, hr => by have : i = 0 := by omega
                     rw [← this]; exact hr
 | j + 1, h, hj, hr => by
   rcases Nat.lt_or_ge j i with h1 | h1
   ·have : i = j + 1 := by omega
    rw [← this]; exact hr
   ·have ih := T.rec_mem j h1 (by omega) hr
    obtain ⟨o, ho⟩ := lu (ops := ops) (j := j) (by omega)
    have hf := T.fact j o ho
    unfold d6 at hf
    obtain ⟨_, _, _, hf⟩ := hf
    cases hc : cls pm o.op with
    | pu => rw [hc] at hf; rw [hf.2.2.2.2.1]; exact ih
    | rd => rw [hc] at hf; exact hf.2.2.2.2.1 r ih
    | mu => rw [hc] at hf; rw [hf.2.2.2.2.1]; exact ih
    | fl => rw [hc] at hf; rw [hf.2.2.1]; exact ih
    | ef => rw [hc] at hf; rw [hf.2.2.2.1]; exact ih
theorem aeg {i : Nat} {op : Op} {τ : F} {v : AV} {e : Nat} {w : W} : ∀ {l : List (Nat × W)}, aru pm ops (.mk i op τ v) l = true → (e, w) ∈ l → aac pm ops i e = true → azl op τ v w = true
 | (e', w') :: l, h, hm, ha => by
   simp only [aru] at h
   obtain ⟨h1, h2⟩ := bc_and.1 h
   rcases List.mem_cons.1 hm with x | x
   ·cases x; exact bc_imp.1 h1 ha
   ·exact aeg h2 x ha
theorem abg {r : RC} {h : List (Nat × W)} : ∀ {l : List RC}, ul pm ops l h = true → r ∈ l → aru pm ops r h = true
 | r' :: l, hh, hm => by
   simp only [ul] at hh
   obtain ⟨h1, h2⟩ := bc_and.1 hh
   rcases List.mem_cons.1 hm with x | x
   ·subst x; exact h1
   ·exact abg h2 x
theorem effs_iff {x : Nat} : x ∈ ad2 pm ops ↔ E pm ops x :=
 ⟨fun h => x8 ops.toList 0 rfl x h, fun ⟨o, ho, hc⟩ => abn ops.toList 0 rfl x o (Nat.zero_le _) ho hc⟩
theorem aji (ops : Array Oper) : ∀ k e, k = ops.size - e → e ≤ ops.size → ∃ e', e ≤ e' ∧ e' ≤ ops.size ∧ (∀ x, e ≤ x → x < e' → ¬ E pm ops x) ∧ (e' = ops.size ∨ E pm ops e')
 | 0, e, hk, he => ⟨e, zY _, he, fun x a b => by omega, .inl (by omega)⟩
 | k + 1, e, hk, he => by
   by_cases h : E pm ops e
   ·exact ⟨e, zY _, he, fun x a b => by omega, .inr h⟩
   ·obtain ⟨e', h1, h2, h3, h4⟩ := aji ops k (e + 1) (by omega) (by omega)
    refine ⟨e', by omega, h2, fun x a b => ?_, h4⟩
    rcases Nat.eq_or_lt_of_le a with q | q
    ·rw [← q]; exact h
    ·exact h3 x (by omega) b
theorem Tr.read (T : Tr pm ih ops nt s val wt obj h0 nx0 nx1) {j e : Nat} {o : Oper} (ho : ops[j]? = some o) (hc : cls pm o.op = .rd) (f1 : zOp o.op (s j).τ (s j).w = .val (val j) (s j).w ∧ (pg pm ops j = true → .mk j o.op (s j).τ (val j) ∈ (s (j + 1)).recs)) (he : e ≤ ops.size)
  (h1 : ∀ x, E pm ops x → bu ops x j = true → x < e) (h2 : ∀ x, E pm ops x → x < e → bu ops j x = false) : zOp o.op (s j).τ (s e).w = .val (val j) (s e).w := by
 have hj := (zI.1 ho).1
 obtain ⟨f2, f3⟩ := f1
 cases hm : pg pm ops j with
 | false =>
   unfold pg at hm
   rw [aae, Bool.not_eq_false'] at hm
   rw [rc] at hm
   have key : ∀ x, E pm ops x → (x < j → bu ops x j = true) ∧ (j < x → bu ops j x = true) := by
    intro x hx
    obtain ⟨q1, q2⟩ := bc_and.1 (hm x (effs_iff.2 hx))
    exact ⟨fun h => bc_imp.1 q1 (s9 h), fun h => bc_imp.1 q2 (s9 h)⟩
   have hsame : (s e).w = (s j).w := by
    rcases Nat.le_total e j with h | h
    ·refine (T.w_const j h (by omega) fun x a b hx => ?_).symm
     have := h1 x hx ((key x hx).1 b)
     omega
    ·refine T.w_const e h he fun x a b hx => ?_
     have hne : x ≠ j := by
      rintro rfl
      obtain ⟨o', ho', hc'⟩ := hx
      rw [ho] at ho'; cases ho'; rw [hc] at hc'; cases hc'
     have q := (key x hx).2 (by omega)
     have := h2 x hx b
     rw [q] at this; cases this
   rw [hsame]
   exact f2
 | true =>
   have hr := T.rec_mem ops.size (i := j + 1) (by omega) (zY _) (f3 hm)
   have hd := abg T.recs hr
   obtain ⟨e', q1, q2, q3, q4⟩ := aji ops _ e rfl he
   have hw : (s e').w = (s e).w := T.w_const e' q1 q2 q3
   have hmem : (e', (s e').w) ∈ ((ops.size, (s ops.size).w) :: (s ops.size).hist) := by
    rcases q4 with q4 | q4
    ·subst q4; simp
    ·exact zA _ (T.hist q4 ops.size q4.size (zY _))
   have hall : aac pm ops j e' = true := by
    unfold aac
    rw [rc]
    intro x hx
    have hx := effs_iff.1 hx
    refine bc_and.2 ⟨bc_imp.2 fun hbf => ?_, bc_imp.2 fun hlt => ?_⟩
    ·have := h1 x hx hbf
     exact s9 (by omega)
    ·have hlt := tw hlt
     rcases Nat.lt_or_ge x e with h | h
     ·rw [h2 x hx h]; rfl
     ·exact absurd hx (q3 x h hlt)
   have := aeg hd hmem hall
   unfold azl at this
   split at this
   ·rename_i v' a' hv
    have hv := ab4 hv
    have hs := aof (a := (s e').w) (arj hc) (s j).τ
    rw [hv] at hs
    have hs : a' = (s e').w := hs
    rw [azr _ _ this, ← hw, hv, hs]
   ·cases this
end
end Go.Ev
set_option linter.all false
namespace Go.Ev
variable [Gv]
noncomputable def TL (ops : Array Oper) (nt : Nat) (val : Nat → AV) (τ0 : F) (L : Nat → Bool) : Nat → F
 | 0 => τ0
 | k + 1 => bif L k then (match ops[k]? with | some o => md nt o.dst (val k) (TL ops nt val τ0 L k) | none => TL ops nt val τ0 L k) else TL ops nt val τ0 L k
section
variable {pm : PM} {ih : Ih} {ops : Array Oper} {nt fn : Nat} {s : Nat → DS} {val : Nat → AV} {wt : Nat → Bool} {obj : Nat → AObj} {h0 : H4} {nx0 nx1 : K} {τ0 : F} {L : Nat → Bool}
theorem iv (hn : nt ≤ 512) {t : Nat} (ht : t < 512) (dst : Option Nat) (v : AV) (τ : F) : ev t (md nt dst v τ) = if dst = some t ∧ t < nt then v else ev t τ := by
 cases dst with
 | none => rw [if_neg (by simp)]; rfl
 | some d =>
   show ev t (aen nt d v τ) = _
   unfold aen
   rw [aa]
   split
   ·rename_i h
    have h := tw h
    rw [tg d t v τ (by omega) ht]
    by_cases e : d = t
    ·subst e; rw [if_pos rfl, if_pos ⟨rfl, h⟩]
    ·rw [if_neg e, if_neg (by rintro ⟨h1, _⟩; injection h1 with h1; exact e h1)]
   ·rename_i h
    have h : ¬ d < nt := fun x => h (s9 x)
    rw [if_neg (by rintro ⟨h1, h2⟩; injection h1 with h1; omega)]
theorem qr {k : Nat} (h : L k = false) : TL ops nt val τ0 L (k + 1) = TL ops nt val τ0 L k := by simp only [TL, h, cond_false]
theorem vh {k : Nat} {o : Oper} (ho : ops[k]? = some o) (h : L k = true) : TL ops nt val τ0 L (k + 1) = md nt o.dst (val k) (TL ops nt val τ0 L k) := by simp only [TL, h, cond_true, ho]
theorem aol (hn : nt ≤ 512) {t k : Nat} (ht : t < 512) (h : ∀ o, ops[k]? = some o → o.dst = some t → L k = false) : ev t (TL ops nt val τ0 L (k + 1)) = ev t (TL ops nt val τ0 L k) := by
 cases hL : L k with
 | false => rw [qr hL]
 | true =>
   cases ho : ops[k]? with
   | none => simp only [TL, hL, cond_true, ho]
   | some o =>
     rw [vh ho hL, iv hn ht, if_neg]
     rintro ⟨h1, _⟩
     have := h o ho h1
     rw [hL] at this; cases this
theorem akb (T : Tr pm ih ops nt s val wt obj h0 nx0 nx1) (hn : nt ≤ 512) (hτ : (s 0).τ = τ0) {j t : Nat} (hj : j ≤ ops.size)
  (h1 : ∀ i o, i < j → ops[i]? = some o → o.dst = some t → L i = true) (h2 : ∀ i o, j ≤ i → ops[i]? = some o → o.dst = some t → L i = false) :
  ev t (TL ops nt val τ0 L ops.size) = ev t (s j).τ := by
 by_cases ht : t < 512
 ·have p1 : ∀ k, k ≤ j → ev t (TL ops nt val τ0 L k) = ev t (s k).τ := by
   intro k
   induction k with
   | zero => intro _; rw [hτ]; rfl
   | succ k ih =>
     intro hk
     obtain ⟨o, ho⟩ := lu (ops := ops) (j := k) (by omega)
     have hf := (T.fact k o ho).1
     rw [hf, iv hn ht]
     by_cases hd : o.dst = some t ∧ t < nt
     ·rw [if_pos hd, vh ho (h1 k o (by omega) ho hd.1), iv hn ht, if_pos hd]
     ·rw [if_neg hd]
      cases hL : L k with
      | false => rw [qr hL]; exact ih (by omega)
      | true => rw [vh ho hL, iv hn ht, if_neg hd]; exact ih (by omega)
  have p2 : ∀ k, j ≤ k → ev t (TL ops nt val τ0 L k) = ev t (TL ops nt val τ0 L j) := by
   intro k
   induction k with
   | zero => intro h; have : j = 0 := by omega
             rw [this]
   | succ k ih =>
     intro hk
     rcases Nat.lt_or_ge k j with h | h
     ·have : j = k + 1 := by omega
      rw [this]
     ·rw [aol hn ht fun o ho hd => h2 k o h ho hd]; exact ih h
  rw [p2 ops.size hj, p1 j (zY _)]
 ·rw [o8 (by omega), o8 (by omega)]
theorem akc {L' : Nat → Bool} : ∀ k, (∀ i, i < k → L i = L' i) → TL ops nt val τ0 L k = TL ops nt val τ0 L' k
 | 0, _ => rfl
 | k + 1, h => by
   have ih := akc k fun i hi => h i (by omega)
   simp only [TL, ih, h k (by omega)]
theorem a89 (hn : nt ≤ 512) {j t : Nat} {o : Oper} (ho : ops[j]? = some o) (hL : L j = false) (ht : t < 512) (h : o.dst = some t → ∀ i oi, j < i → ops[i]? = some oi → oi.dst = some t → L i = false) :
  ev t (TL ops nt val τ0 (upL L j) ops.size) = if o.dst = some t ∧ t < nt then val j else ev t (TL ops nt val τ0 L ops.size) := by
 have hj := (zI.1 ho).1
 have p0 : TL ops nt val τ0 (upL L j) j = TL ops nt val τ0 L j := akc j fun i hi => az L (by omega)
 have p1 : ev t (TL ops nt val τ0 (upL L j) (j + 1)) = if o.dst = some t ∧ t < nt then val j else ev t (TL ops nt val τ0 L (j + 1)) := by
  rw [vh ho (fx L j), iv hn ht, p0, qr hL]
 have p2 : ∀ k, j + 1 ≤ k → ev t (TL ops nt val τ0 (upL L j) k) = if o.dst = some t ∧ t < nt then val j else ev t (TL ops nt val τ0 L k) := by
  intro k
  induction k with
  | zero => intro h; omega
  | succ k ih =>
    intro hk
    rcases Nat.lt_or_ge k (j + 1) with q | q
    ·have : k = j := by omega
     rw [this]; exact p1
    ·have ihk := ih q
     by_cases hd : o.dst = some t ∧ t < nt
     ·rw [if_pos hd] at ihk ⊢
      rw [aol hn ht, ihk]
      intro oi hoi hdi
      rw [az L (by omega)]
      exact h hd.1 k oi (by omega) hoi hdi
     ·rw [if_neg hd] at ihk ⊢
      have hk' : upL L j k = L k := az L (by omega)
      cases hLk : L k with
      | false => rw [qr (by rw [hk']; exact hLk), qr hLk]; exact ihk
      | true =>
        cases hok : ops[k]? with
        | none => simp only [TL, hk', hLk, cond_true, hok]; exact ihk
        | some ok =>
          rw [vh hok (by rw [hk']; exact hLk), vh hok hLk, iv hn ht, iv hn ht, ihk]
 exact p2 ops.size (by omega)
variable {ρ0 : Env} {w0 : World} {a0 : Act}
structure IV (pm : PM) (ops : Array Oper) (nt : Nat) (s : Nat → DS) (val : Nat → AV) (wt : Nat → Bool) (obj : Nat → AObj) (h0 : H4) (nx0 nx1 : K) (τ0 : F) (ρ0 : Env) (w0 : World) (a0 : Act)
  (L : Nat → Bool) (e : Nat) (ρ : Env) (a : Act) (w : World) : Prop where
 cl : fb ops L
 le : e ≤ ops.size
 ph : ∀ x, E pm ops x → (L x = true ↔ x < e)
 adv : Adv ρ0 (.mk h0 nx0) w0 ρ (s e).w w
 clean : Clean ρ (s e).w
 nx : nx1.num ≤ (s e).w.nx.num
 fr : FRel ρ (TL ops nt val τ0 L ops.size) a.tmps
 sz : a.tmps.size = nt
 dr : a.defers = a0.defers
 held : ∀ j, FW pm ops wt j → isP pm j = false → L j = true → (∀ x, x < e → E pm ops x → bu ops j x = false) → Held w0.heap.size ρ (s e).w w (s j).fk (obj j)
 sep : ∀ i j, FW pm ops wt i → FW pm ops wt j → L i = true → L j = true → i ≠ j → ρ (s i).fk ≠ ρ (s j).fk
 lt : ∀ j, FW pm ops wt j → L j = true → ∃ c, ρ (s j).fk = some c ∧ c < w.heap.size
 none : ∀ j, FW pm ops wt j → L j = false → ρ (s j).fk = none
 pheld : ∀ j, FW pm ops wt j → isP pm j = true → L j = true → Held w0.heap.size ρ (s e).w w (s j).fk (.umap (dn pm ops s L ops.size))
section
variable {e j : Nat} {ρ : Env} {a : Act} {w : World} {o : Oper}
theorem x7 (hc : fb ops L) (ho : ops[j]? = some o) (hr : ∀ e ∈ o.after, Region.binds .any e = true → L e.on = true) : fb ops (upL L j) := by
 intro i oi hi hL x hx hb
 by_cases h : i = j
 ·subst h
  rw [ho] at hi; cases hi
  have := hr x hx hb
  unfold upL; split <;> first | rfl | exact this
 ·rw [az L h] at hL
  have := hc i oi hi hL x hx hb
  unfold upL; split <;> first | rfl | exact this
theorem zq (T : Tr pm ih ops nt s val wt obj h0 nx0 nx1) (hn : nt ≤ 512) (hτ : (s 0).τ = τ0) (hc : fb ops L) (hcu : fb ops (upL L j)) (ho : ops[j]? = some o) (hL : L j = false) {t : Nat} (ht : t ∈ lx ops.toList o) :
  ev t (TL ops nt val τ0 L ops.size) = ev t (s j).τ := by
 have hj := (zI.1 ho).1
 refine akb T hn hτ (by omega) ?_ ?_
 ·intro i oi hi hoi hd
  have := (T.drawn.tmp i j oi o t (by omega) hoi ho hd ht).1 hi
  have := ca hcu this (fx L j)
  rw [az L (by omega)] at this
  exact this
 ·intro i oi hi hoi hd
  rcases Nat.eq_or_lt_of_le hi with h | h
  ·rw [← h]; exact hL
  ·have := (T.drawn.tmp i j oi o t (by omega) hoi ho hd ht).2 h
   cases hLi : L i with
   | false => rfl
   | true => have := ca hc this hLi; rw [hL] at this; cases this
theorem yc (T : Tr pm ih ops nt s val wt obj h0 nx0 nx1) (hn : nt ≤ 512) (hτ : (s 0).τ = τ0) (hc : fb ops L) (hcu : fb ops (upL L j)) (ho : ops[j]? = some o) (hL : L j = false) (x : Operand) (hx : x ∈ o.op.operands) :
  evX x (TL ops nt val τ0 L ops.size) = evX x (s j).τ := by
 cases x with
 | tmp t =>
   refine zq T hn hτ hc hcu ho hL ?_
   unfold lx
   exact List.mem_append_left _ (vi (by simpa using hx))
 | const _ => rfl
 | global _ => rfl
 | func _ => rfl
theorem zx (T : Tr pm ih ops nt s val wt obj h0 nx0 nx1) (hn : nt ≤ 512) (hτ : (s 0).τ = τ0) (hc : fb ops L) (hcu : fb ops (upL L j)) (ho : ops[j]? = some o) (hL : L j = false) {g : Nat × Bool} (hg : o.guard = some g) :
  jz g ops.toList (TL ops nt val τ0 L ops.size) = jz g ops.toList (s j).τ := by
 unfold jz
 cases hd : (nth ops.toList g.1).bind (·.dst) with
 | none => rfl
 | some t =>
   dsimp only
   rw [zq T hn hτ hc hcu ho hL (t := t)]
   unfold lx
   rw [hg]
   dsimp only
   rw [hd]
   simp
theorem anr (T : Tr pm ih ops nt s val wt obj h0 nx0 nx1) (hn : nt ≤ 512) (hc : fb ops L) (ho : ops[j]? = some o) (hL : L j = false) (hf : FRel ρ (TL ops nt val τ0 L ops.size) a.tmps) (hsz : a.tmps.size = nt) {v' : Value} (hv : VRel ρ (val j) v') :
  FRel ρ (TL ops nt val τ0 (upL L j) ops.size) (a.put o.dst v').tmps := by
 intro t
 by_cases ht : t < 512
 ·rw [a89 hn ho hL ht]
  ·cases hd : o.dst with
   | none => rw [if_neg (by simp)]; exact hf t
   | some d =>
     show VRel ρ _ ((a.tmps.setIfInBounds d v').getD t undef)
     rw [ain]
     by_cases e : d = t ∧ d < a.tmps.size
     ·rw [if_pos e, if_pos ⟨by rw [e.1], by rw [← e.1, ← hsz]; exact e.2⟩]; exact hv
     ·rw [if_neg e, if_neg (by rintro ⟨h1, h2⟩; injection h1 with h1; exact e ⟨h1, by rw [h1, hsz]; exact h2⟩)]; exact hf t
  ·intro hd i oi hi hoi hdi
   have hl : t ∈ lx ops.toList o := by unfold lx; rw [hd]; simp
   have := (T.drawn.tmp i j oi o t (by omega) hoi ho hdi hl).2 hi
   cases hLi : L i with
   | false => rfl
   | true => have := ca hc this hLi; rw [hL] at this; cases this
 ·rw [o8 (by omega)]; simp only [VRel]
theorem IV.quiet (T : Tr pm ih ops nt s val wt obj h0 nx0 nx1) (hn : nt ≤ 512) (I : IV pm ops nt s val wt obj h0 nx0 nx1 τ0 ρ0 w0 a0 L e ρ a w) (ho : ops[j]? = some o) (hL : L j = false) (hcu : fb ops (upL L j)) (hE : ¬ E pm ops j) (hF : ¬ FW pm ops wt j) (hM : ¬ MU pm ops j)
  {ρ' : Env} {w' : World} {v' : Value} (hA : Adv ρ (s e).w w ρ' (s e).w w') (hv : VRel ρ' (val j) v') :
  IV pm ops nt s val wt obj h0 nx0 nx1 τ0 ρ0 w0 a0 (upL L j) e ρ' (a.put o.dst v') w' := by
 have same : ∀ k, ρ' k = ρ k := by
  intro k
  rcases hA.rng k with x | x
  ·exact x
  ·omega
 have ne : ∀ i, FW pm ops wt i → i ≠ j := by rintro i hi rfl; exact hF hi
 refine ⟨hcu, I.le, ?_, I.adv.trans hA, I.clean.adv hA, I.nx, anr T hn I.cl ho hL (I.fr.mono hA.le) I.sz hv, by rw [sm]; exact I.sz, by rw [ni]; exact I.dr, ?_, ?_, ?_, ?_, ?_⟩
 ·intro x hx
  rw [az L (by rintro rfl; exact hE hx)]
  exact I.ph x hx
 ·intro i hi hp hLi hx
  rw [az L (ne i hi)] at hLi
  exact (I.held i hi hp hLi hx).adv hA
 ·intro i k hi hk hLi hLk hne
  rw [az L (ne i hi)] at hLi
  rw [az L (ne k hk)] at hLk
  rw [same, same]
  exact I.sep i k hi hk hLi hLk hne
 ·intro i hi hLi
  rw [az L (ne i hi)] at hLi
  obtain ⟨c, h1, h2⟩ := I.lt i hi hLi
  exact ⟨c, by rw [same]; exact h1, Nat.lt_of_lt_of_le h2 hA.size⟩
 ·intro i hi hLi
  rw [az L (ne i hi)] at hLi
  rw [same]
  exact I.none i hi hLi
 ·intro i hi hp hLi
  rw [az L (ne i hi)] at hLi
  rw [aag hM]
  exact (I.pheld i hi hp hLi).adv hA
theorem IV.mu (T : Tr pm ih ops nt s val wt obj h0 nx0 nx1) (hn : nt ≤ 512) (I : IV pm ops nt s val wt obj h0 nx0 nx1 τ0 ρ0 w0 a0 L e ρ a w) (ho : ops[j]? = some o) (hL : L j = false) (hcu : fb ops (upL L j)) (hE : ¬ E pm ops j) (hF : ¬ FW pm ops wt j)
  {i : Nat} (hi : FW pm ops wt i) (hp : isP pm i = true) (hLi : L i = true) {kv : AV × AV} (hkv : wa pm ops s j = [kv]) {ρ' : Env} {w' : World} {v' : Value}
  (hA : Adv ρ (wset (s i).fk (.umap (dn pm ops s L ops.size)) (s e).w) w ρ' (wset (s i).fk (.umap (dn pm ops s L ops.size ++ [kv])) (wset (s i).fk (.umap (dn pm ops s L ops.size)) (s e).w)) w') (hv : VRel ρ' (val j) v') :
  IV pm ops nt s val wt obj h0 nx0 nx1 τ0 ρ0 w0 a0 (upL L j) e ρ' (a.put o.dst v') w' := by
 have hj := (zI.1 ho).1
 have Hd := I.pheld i hi hp hLi
 obtain ⟨c, c1, c2, c3, c4, c5, c6⟩ := Hd.ex
 have hK : ac (s i).fk (s e).w.h = .none := by
  by_cases h : ac (s i).fk (s e).w.h = .none
  ·exact h
  ·exact absurd c1 (c5 _ h)
 have hs : ∀ l, l ≠ (s i).fk → ac l (s e).w.h = ac l (wset (s i).fk (.umap (dn pm ops s L ops.size ++ [kv])) (wset (s i).fk (.umap (dn pm ops s L ops.size)) (s e).w)).h := by
  intro l hl
  rw [c8, c8]
  simp only [W.h_mk]
  rw [ak hl, ak hl]
 have hnx : (s e).w.nx = (wset (s i).fk (.umap (dn pm ops s L ops.size ++ [kv])) (wset (s i).fk (.umap (dn pm ops s L ops.size)) (s e).w)).nx := by rw [mi, mi]
 have same : ∀ k, ρ' k = ρ k := by
  intro k
  rcases hA.rng k with x | x
  ·exact x
  ·rw [mi, mi, mi] at x; omega
 have ne : ∀ i, FW pm ops wt i → i ≠ j := by rintro i hi rfl; exact hF hi
 refine ⟨hcu, I.le, ?_, ((aax I.adv Hd).trans hA).forget hK hs hnx, ?_, I.nx, anr T hn I.cl ho hL (I.fr.mono hA.le) I.sz hv, by rw [sm]; exact I.sz, by rw [ni]; exact I.dr, ?_, ?_, ?_, ?_, ?_⟩
 ·intro x hx
  rw [az L (by rintro rfl; exact hE hx)]
  exact I.ph x hx
 ·intro k hk
  rw [same]
  exact I.clean k hk
 ·intro i' hi' hp' hLi' hx
  rw [az L (ne i' hi')] at hLi'
  have hne : i ≠ i' := by rintro rfl; rw [hp] at hp'; cases hp'
  exact (((I.held i' hi' hp' hLi' hx).wset (I.sep i i' hi hi' hLi hLi' hne) (by rfl)).adv hA).forget hK hs
 ·intro i' k hi' hk hLi' hLk hne
  rw [az L (ne i' hi')] at hLi'
  rw [az L (ne k hk)] at hLk
  rw [same, same]
  exact I.sep i' k hi' hk hLi' hLk hne
 ·intro i' hi' hLi'
  rw [az L (ne i' hi')] at hLi'
  obtain ⟨c, h1, h2⟩ := I.lt i' hi' hLi'
  exact ⟨c, by rw [same]; exact h1, Nat.lt_of_lt_of_le h2 hA.size⟩
 ·intro i' hi' hLi'
  rw [az L (ne i' hi')] at hLi'
  rw [same]
  exact I.none i' hi' hLi'
 ·intro i' hi' hp' hLi'
  obtain rfl := agp hp hp'
  refine Held.conv (o := .umap (dn pm ops s L ops.size ++ [kv])) (Held.of_rel hA.rel ?_ (by simp) rfl rfl (by rw [same]; exact c1) c2 hK hs) ?_ rfl
  ·rw [c8]; simp only [W.h_mk]; rw [af]
  ·rintro x ⟨entries, clock, l, h1, h2, h3⟩
   refine ⟨entries, clock, l, h1, h2.trans ?_, h3⟩
   have := a30 (pm := pm) (ops := ops) (s := s) hL ops.size hj
   rw [hkv] at this
   exact this.symm
theorem IV.float (T : Tr pm ih ops nt s val wt obj h0 nx0 nx1) (hn : nt ≤ 512) (I : IV pm ops nt s val wt obj h0 nx0 nx1 τ0 ρ0 w0 a0 L e ρ a w) (ho : ops[j]? = some o) (hL : L j = false) (hcu : fb ops (upL L j)) (hF : FW pm ops wt j)
  {ρ' : Env} {w' : World} {v' : Value} {h : H4} {nx : K} (hw : (s e).w = .mk h nx) (hm : (s j).fk.isMax = false) (hob : obj j ≠ .none ∧ ay (obj j) = Option.none ∧ (obj j).isRo = false) (hpo : isP pm j = true → obj j = .map [])
  (hA : Adv ρ (.mk h (s j).fk) w ρ' (.mk (bn (s j).fk (obj j) h) (s j).fk.succ) w') (hv : VRel ρ' (val j) v') :
  IV pm ops nt s val wt obj h0 nx0 nx1 τ0 ρ0 w0 a0 (upL L j) e ρ' (a.put o.dst v') w' := by
 have hkey := T.key_lt hF
 have hnx := I.nx
 rw [hw] at hnx
 simp only [W.nx_mk] at hnx
 have hadv := I.adv
 rw [hw] at hadv
 obtain ⟨f1, f2, f3, ⟨c, f4, f5, f6⟩, f7⟩ := aou (N := w0.heap.size) hadv hA hm (I.none j hF hL) (by simpa using hkey.1) (by omega) hob.1 hob.2.1 hob.2.2
 have hE : ¬ E pm ops j := by
  rintro ⟨o', ho', hc'⟩
  obtain ⟨_, o'', ho'', hc''⟩ := hF
  rw [ho'] at ho''; cases ho''; rw [hc'] at hc''; cases hc''
 have kne : ∀ i, FW pm ops wt i → i ≠ j → (s i).fk ≠ (s j).fk := fun i hi hne he => hne (T.key_inj hi hF he)
 refine ⟨hcu, I.le, ?_, by rw [hw]; exact f1, ?_, I.nx, anr T hn I.cl ho hL (I.fr.mono hA.le) I.sz hv, by rw [sm]; exact I.sz, by rw [ni]; exact I.dr, ?_, ?_, ?_, ?_, ?_⟩
 ·intro x hx
  rw [az L (by rintro rfl; exact hE hx)]
  exact I.ph x hx
 ·intro k hk
  have hk' := hk
  rw [hw] at hk'
  simp only [W.nx_mk] at hk'
  rw [f3 k (by rintro rfl; omega)]
  exact I.clean k hk
 ·intro i hi hp hLi hx
  rw [hw]
  by_cases h : i = j
  ·subst h; exact f2
  ·rw [az L h] at hLi
   have := I.held i hi hp hLi hx
   rw [hw] at this
   exact (f7 _ _ this).1
 ·intro i k hi hk hLi hLk hne
  have one : ∀ i, FW pm ops wt i → i ≠ j → upL L j i = true → ρ' (s i).fk ≠ ρ' (s j).fk := by
   intro i hi h hLi
   rw [az L h] at hLi
   obtain ⟨c', h1, h2⟩ := I.lt i hi hLi
   rw [f3 _ (kne i hi h), h1, f4]
   intro he; injection he with he; omega
  by_cases h : i = j
  ·subst h; exact (one k hk (Ne.symm hne) hLk).symm
  ·by_cases h' : k = j
   ·subst h'; exact one i hi h hLi
   ·rw [az L h] at hLi
    rw [az L h'] at hLk
    rw [f3 _ (kne i hi h), f3 _ (kne k hk h')]
    exact I.sep i k hi hk hLi hLk hne
 ·intro i hi hLi
  by_cases h : i = j
  ·subst h; exact ⟨c, f4, f6⟩
  ·rw [az L h] at hLi
   obtain ⟨c', h1, h2⟩ := I.lt i hi hLi
   exact ⟨c', by rw [f3 _ (kne i hi h)]; exact h1, Nat.lt_of_lt_of_le h2 hA.size⟩
 ·intro i hi hLi
  by_cases h : i = j
  ·subst h; rw [fx] at hLi; cases hLi
  ·rw [az L h] at hLi
   rw [f3 _ (kne i hi h)]
   exact I.none i hi hLi
 ·intro i hi hp hLi
  rw [hw]
  have hM : ¬ MU pm ops j := by
   rintro ⟨o', ho', hc'⟩
   obtain ⟨_, o'', ho'', hc''⟩ := hF
   rw [ho'] at ho''; cases ho''; rw [hc'] at hc''; cases hc''
  rw [aag hM]
  by_cases h : i = j
  ·subst h
   rw [T.dn_nil I.cl hp hL]
   rw [hpo hp] at f2
   refine f2.conv ?_ rfl
   rintro x ⟨entries, clock, h1, h2⟩
   exact ⟨entries, clock, [], h1, List.Perm.refl _, h2⟩
  ·rw [az L h] at hLi
   have := I.pheld i hi hp hLi
   rw [hw] at this
   exact (f7 _ _ this).1
theorem IV.before (T : Tr pm ih ops nt s val wt obj h0 nx0 nx1) (I : IV pm ops nt s val wt obj h0 nx0 nx1 τ0 ρ0 w0 a0 L e ρ a w) (hL : L j = false) (hcu : fb ops (upL L j)) (hE : E pm ops j) :
  e ≤ j ∧ (s j).w = (s e).w ∧ Adv ρ0 (.mk h0 nx0) w0 ρ (cm (bo ops j) (s j).pend (s j).w) w ∧ Clean ρ (cm (bo ops j) (s j).pend (s j).w) ∧
  (∀ i, FW pm ops wt i → isP pm i = false → L i = true → (∀ x, x < j + 1 → E pm ops x → bu ops i x = false) → Held w0.heap.size ρ (cm (bo ops j) (s j).pend (s j).w) w (s i).fk (obj i)) ∧
  ∀ i, FW pm ops wt i → isP pm i = true → L i = true → Held w0.heap.size ρ (cm (bo ops j) (s j).pend (s j).w) w (s i).fk (.umap (dn pm ops s L ops.size)) := by
 have hj := hE.size
 have he : e ≤ j := by
  rcases Nat.lt_or_ge j e with h | h
  ·have := (I.ph j hE).2 h; rw [hL] at this; cases this
  ·exact h
 have hw : (s j).w = (s e).w := by
  refine T.w_const j he (by omega) fun x h1 h2 hx => ?_
  obtain ⟨ox, hox, hcx⟩ := hx
  obtain ⟨oj, hoj, hcj⟩ := hE
  have := ca hcu (T.drawn.eff x j ox oj h2 hox hoj hcx hcj) (fx L j)
  rw [az L (by omega)] at this
  have := (I.ph x ⟨ox, hox, hcx⟩).1 this
  omega
 obtain ⟨p1, p2⟩ := T.pend j (by omega)
 have inL : ∀ p ∈ (s j).pend, tb (bo ops j) p.i = true → L p.i = true := by
  intro p hp hb
  have := ca hcu (i := p.i) (j := j) hb (fx L j)
  rw [az L (by have := (p1 p hp).1; omega)] at this
  exact this
 have ok := ahq (bo ops j) (s j).pend (ρ := ρ) (a := (s j).w) (w := w) (ρ0 := ρ0) (a0 := .mk h0 nx0) (w0 := w0) (fun p hp hb => ?_) ?_ (by rw [hw]; exact I.adv)
 ·refine ⟨he, hw, ok.1, ?_, ?_, ?_⟩
  ·intro k hk
   rw [sg, hw] at hk
   exact I.clean k hk
  ·intro i hi hpi hLi hx
   refine ok.2 _ _ (by rw [hw]; exact I.held i hi hpi hLi fun x h1 h2 => hx x (by omega) h2) fun p hp hb => ?_
   obtain ⟨q1, q2, q3, q4, q5, q6⟩ := p1 p hp
   rw [q4]
   refine I.sep p.i i q2 hi (inL p hp hb) hLi ?_
   rintro rfl
   have := hx j (by omega) hE
   unfold bu at this
   rw [hb] at this; cases this
  ·intro i hi hpi hLi
   refine ok.2 _ _ (by rw [hw]; exact I.pheld i hi hpi hLi) fun p hp hb => ?_
   obtain ⟨q1, q2, q3, q4, q5, q6⟩ := p1 p hp
   rw [q4]
   refine I.sep p.i i q2 hi (inL p hp hb) hLi ?_
   rintro rfl
   rw [hpi] at q6; cases q6
 ·obtain ⟨q1, q2, q3, q4, q5, q6⟩ := p1 p hp
  rw [q4, q5, hw]
  exact I.held p.i q2 q6 (inL p hp hb) fun x h1 h2 => q3 x (by omega) h2
 ·have : ∀ (l : List PF), (∀ p ∈ l, p ∈ (s j).pend) → l.Pairwise (fun p q => q.i < p.i) → l.Pairwise (fun p q => tb (bo ops j) p.i = true → tb (bo ops j) q.i = true → ρ p.k ≠ ρ q.k) := by
   intro l hl hp
   refine List.Pairwise.imp_of_mem (fun {p q} hp hq hlt hb hb' => ?_) hp
   obtain ⟨_, q2, _, q4, _⟩ := p1 p (hl p hp)
   obtain ⟨_, r2, _, r4, _⟩ := p1 q (hl q hq)
   rw [q4, r4]
   exact I.sep p.i q.i q2 r2 (inL p (hl p hp) hb) (inL q (hl q hq) hb') (by omega)
  exact this _ (fun p hp => hp) p2
theorem IV.effect (T : Tr pm ih ops nt s val wt obj h0 nx0 nx1) (hn : nt ≤ 512) (I : IV pm ops nt s val wt obj h0 nx0 nx1 τ0 ρ0 w0 a0 L e ρ a w) (ho : ops[j]? = some o) (hL : L j = false) (hcu : fb ops (upL L j)) (hE : E pm ops j)
  {ρ' : Env} {w' : World} {v' : Value} (hA : Adv ρ (cm (bo ops j) (s j).pend (s j).w) w ρ' (s (j + 1)).w w') (hv : VRel ρ' (val j) v') :
  IV pm ops nt s val wt obj h0 nx0 nx1 τ0 ρ0 w0 a0 (upL L j) (j + 1) ρ' (a.put o.dst v') w' := by
 have hj := hE.size
 obtain ⟨b1, b2, b3, b4, b5, b6⟩ := I.before T hL hcu hE
 have hF : ¬ FW pm ops wt j := by
  rintro ⟨_, o', ho', hc'⟩
  obtain ⟨o'', ho'', hc''⟩ := hE
  rw [ho'] at ho''; cases ho''; rw [hc'] at hc''; cases hc''
 have ne : ∀ i, FW pm ops wt i → i ≠ j := by rintro i hi rfl; exact hF hi
 have hnx := hA.nx
 rw [sg, b2] at hnx
 have hn1 := I.nx
 have same : ∀ i, FW pm ops wt i → ρ' (s i).fk = ρ (s i).fk := by
  intro i hi
  have := T.key_lt hi
  rcases hA.rng (s i).fk with x | x
  ·exact x
  ·rw [sg, b2] at x; omega
 refine ⟨hcu, by omega, ?_, b3.trans hA, b4.adv hA, by omega, anr T hn I.cl ho hL (I.fr.mono hA.le) I.sz hv, by rw [sm]; exact I.sz, by rw [ni]; exact I.dr, ?_, ?_, ?_, ?_, ?_⟩
 ·intro x hx
  by_cases h : x = j
  ·subst h; rw [fx]; simp
  ·rw [az L h, I.ph x hx]
   constructor
   ·intro h1; omega
   ·intro h1
    obtain ⟨ox, hox, hcx⟩ := hx
    obtain ⟨oj, hoj, hcj⟩ := hE
    have := ca hcu (T.drawn.eff x j ox oj (by omega) hox hoj hcx hcj) (fx L j)
    rw [az L h] at this
    exact (I.ph x ⟨ox, hox, hcx⟩).1 this
 ·intro i hi hp hLi hx
  rw [az L (ne i hi)] at hLi
  exact (b5 i hi hp hLi hx).adv hA
 ·intro i k hi hk hLi hLk hne
  rw [az L (ne i hi)] at hLi
  rw [az L (ne k hk)] at hLk
  rw [same i hi, same k hk]
  exact I.sep i k hi hk hLi hLk hne
 ·intro i hi hLi
  rw [az L (ne i hi)] at hLi
  obtain ⟨c, h1, h2⟩ := I.lt i hi hLi
  exact ⟨c, by rw [same i hi]; exact h1, Nat.lt_of_lt_of_le h2 hA.size⟩
 ·intro i hi hLi
  rw [az L (ne i hi)] at hLi
  rw [same i hi]
  exact I.none i hi hLi
 ·intro i hi hp hLi
  rw [az L (ne i hi)] at hLi
  have hM : ¬ MU pm ops j := by
   rintro ⟨o', ho', hc'⟩
   obtain ⟨o'', ho'', hc''⟩ := hE
   rw [ho'] at ho''; cases ho''; rw [hc'] at hc''; cases hc''
  rw [aag hM]
  exact (b6 i hi hp hLi).adv hA
end
end
end Go.Ev
set_option linter.all false
namespace Go.Ev
variable [Gv]
section
variable {pm : PM} {ih : Ih} {ops : Array Oper} {nt fn : Nat} {s : Nat → DS} {val : Nat → AV} {wt : Nat → Bool} {obj : Nat → AObj} {h0 : H4} {nx0 nx1 : K} {τ0 : F} {L : Nat → Bool} {ρ0 : Env} {w0 : World} {a0 : Act}
variable {e j : Nat} {ρ : Env} {a : Act} {w : World} {o : Oper} {d : Bool} {ro : Option Nat} {cs : List Frame} {Q : Exit → Act → List Frame → World → Prop}
theorem j1 {o : Op} {τ : F} {aw : W} (h : (∃ v a, zOp o τ aw = .val v a) ∨ (∃ f vs a, zOp o τ aw = .call f vs a)) (c : Call) : o ≠ .defer c := by
 rintro rfl
 have : zOp (.defer c) τ aw = j6 (lj c τ aw) := by
  rw [ug (fun _ => rfl)]; rfl
 rw [this] at h
 unfold lj at h
 split at h
 ·split at h <;> simp [j6] at h
 ·simp [j6] at h
theorem al3 {t : TypeId} {p : Value} {c off : Nat} {arr : Array Value} {t' : TypeId} {fz : Nat × Nat} {v : Value} {w : World} (h : mt t = some none) (hp : p = .pointer (some ⟨c, off, none⟩)) (hx : w.heap[c]? = some (.cells arr t' fz)) (hv : arr[off]? = some v) :
  (Instr.loadAt t p).run PP w = .ok v w := by
 obtain ⟨d, n, hd, hs, hr⟩ := ic h
 have hagg : ei d = false := by cases e : ei d with | false => rfl | true => rw [e] at hr; simp at hr
 subst hp
 have hc : w.cell? ⟨c, off, none⟩ = some v := by
  unfold World.cell?
  simp [hx, hv]
 simp only [Instr.loadAt, Instr.sureAddr, loadVar, zR, zT, zQ, iy hd, hagg, zF, if_false, run_load, hc]
theorem aeh (hs : Sound ih) (T : Tr pm ih ops nt s val wt obj h0 nx0 nx1) (hn : nt ≤ 512) (hτ : (s 0).τ = τ0) (hg0 : GRel ρ0) (I : IV pm ops nt s val wt obj h0 nx0 nx1 τ0 ρ0 w0 a0 L e ρ a w) (ho : ops[j]? = some o) (hL : L j = false)
  (hr : ∀ e ∈ o.after, Region.binds .any e = true → L e.on = true) {opr : Array Oper} (ho' : opr[j]? = some o) (hy : Region.wanted o (yielded opr a.tmps) = Region.wanted o (yielded ops a.tmps)) {rest : List Nat}
  (pan : ∀ f vs W1 ch W2, wt j = true → cls pm o.op = .ef → zOp o.op (s j).τ (cm (bo ops j) (s j).pend (s j).w) = .call f vs W1 → enter ih f vs W1 = .pan ch W2 →
    ∀ ρ' w' ch', ChRel ρ' ch ch' → Adv ρ0 (.mk h0 nx0) w0 ρ' W2 w' → Clean ρ' W2 → ρ.le ρ' → Q (.panic ch') a cs w')
  (next : ∀ e' ρ' a' w', IV pm ops nt s val wt obj h0 nx0 nx1 τ0 ρ0 w0 a0 (upL L j) e' ρ' a' w' → iq d ro PP opr Q rest a' cs w') : iq d ro PP opr Q (j :: rest) a cs w := by
 have hcu := x7 I.cl ho hr
 have he : ∀ x, VRel ρ (evX x (TL ops nt val τ0 L ops.size)) (a.eval x) := by
  intro x
  have := agb (fr := (default : Frame).at a []) (hg0.mono I.adv.le) (τ := TL ops nt val τ0 L ops.size) I.fr x
  rw [Frame.eval_at] at this
  exact this
 have hf := T.fact j o ho
 unfold d6 at hf
 obtain ⟨f1, f2, f3, f4⟩ := hf
 have hwant : Region.wanted o (yielded ops a.tmps) = wt j := by
  cases hg : o.guard with
  | none => rw [hg] at f2; rw [f2]; unfold Region.wanted; rw [hg]
  | some g =>
    rw [hg] at f2
    exact adn hg I.fr (by rw [zx T hn hτ I.cl hcu ho hL hg]; exact f2)
 have notE : cls pm o.op ≠ .ef → ¬ E pm ops j := by rintro hne ⟨o', ho', hc'⟩; rw [ho] at ho'; cases ho'; exact hne hc'
 have notF : cls pm o.op ≠ .fl → ¬ FW pm ops wt j := by rintro hne ⟨_, o', ho', hc'⟩; rw [ho] at ho'; cases ho'; exact hne hc'
 have notM : cls pm o.op ≠ .mu → ¬ MU pm ops j := by rintro hne ⟨o', ho', hc'⟩; rw [ho] at ho'; cases ho'; exact hne hc'
 simp only [iq, ho']
 rw [hy, hwant]
 cases hb : wt j with
 | false =>
   rw [if_neg (by simp)]
   have hv : ∀ ρ, VRel ρ (val j) undef := by rw [f3 hb]; exact j9
   have hF : ¬ FW pm ops wt j := by rintro ⟨h, _⟩; rw [hb] at h; cases h
   cases hc : cls pm o.op with
   | ef =>
     rw [hc] at f4
     have hE : E pm ops j := ⟨o, ho, hc⟩
     refine next _ _ _ _ (I.effect T hn ho hL hcu hE (ρ' := ρ) (w' := w) ?_ (hv ρ))
     rw [f4.2.2.2.2.2.1 hb]
     exact Adv.refl (I.before T hL hcu hE).2.2.1.rel
   | mu => rw [hc] at f4; have := f4.2.2.2.2.2.1; rw [hb] at this; cases this
   | pu => exact next _ _ _ _ (I.quiet T hn ho hL hcu (notE (by rw [hc]; simp)) hF (notM (by rw [hc]; simp)) (Adv.refl I.adv.rel) (hv ρ))
   | rd => exact next _ _ _ _ (I.quiet T hn ho hL hcu (notE (by rw [hc]; simp)) hF (notM (by rw [hc]; simp)) (Adv.refl I.adv.rel) (hv ρ))
   | fl => exact next _ _ _ _ (I.quiet T hn ho hL hcu (notE (by rw [hc]; simp)) hF (notM (by rw [hc]; simp)) (Adv.refl I.adv.rel) (hv ρ))
 | true =>
   rw [if_pos rfl]
   have hcong : ∀ a, zOp o.op (TL ops nt val τ0 L ops.size) a = zOp o.op (s j).τ a := fun a => afr o.op (yc T hn hτ I.cl hcu ho hL)
   have quiet : zOp o.op (s j).τ (s e).w = .val (val j) (s e).w → ¬ E pm ops j → ¬ FW pm ops wt j → ¬ MU pm ops j →
     vl d ro PP o a cs (iq d ro PP opr Q rest) Q ((o.semAt ro a.eval).run PP w) := by
    intro hev hE hF hM
    have hN := adx (e := a.eval) I.adv.rel he o
    rw [hcong, hev] at hN
    obtain ⟨ρ', w', hA, hrun⟩ := hN (I.clean.fresh _)
    rw [Oper.semAt_eq ro a.eval o (j1 (.inl ⟨_, _, hev⟩))]
    rcases hrun with ⟨v', hrun, hv⟩ | ⟨hrun, hv⟩
    ·rw [hrun]; exact next _ _ _ _ (I.quiet T hn ho hL hcu hE hF hM hA hv)
    ·rw [hrun]; exact next _ _ _ _ (I.quiet T hn ho hL hcu hE hF hM hA (by rw [hv]; exact j9 ρ'))
   have held : aq5 pm ops j o.op (s j).τ (s j).pend (val j) → ¬ E pm ops j → ¬ FW pm ops wt j → ¬ MU pm ops j → vl d ro PP o a cs (iq d ro PP opr Q rest) Q ((o.semAt ro a.eval).run PP w) := by
    rintro ⟨t, x, k, off, i, ob, z1, z2, z3, z4, z5, z6, z7⟩ hE hF hM
    obtain ⟨p1, _⟩ := T.pend j (by have := (zI.1 ho).1; omega)
    obtain ⟨q1, q2, q3, q4, q5, q6⟩ := p1 _ z4
    have inL : L i = true := by
     have := ca hcu (i := i) (j := j) z5 (fx L j)
     rw [az L (by have q1 : i < j := q1; omega)] at this
     exact this
    have hH := I.held i q2 q6 inL fun y hy hy' => by
     rw [rc] at z6
     have := z6 y (effs_iff.2 hy')
     rw [aae] at this
     show tb (bo ops y) i = false
     simpa using this
    obtain ⟨c, h1, h2, h3, h4, h5, h6, h7, h8⟩ := hH.ex
    have q4 : k = (s i).fk := q4
    have q5 : ob = obj i := q5
    rw [← q5] at h4
    rw [← q4] at h1
    cases ob with
    | cells t' sz e' fl fh cs' =>
      unfold afx at z7
      dsimp only at z7
      rw [aa] at z7
      split at z7
      ·rename_i hlt
       have hlt : off < sz := tw hlt
       injection z7 with z7
       obtain ⟨arr, fz, y1, _, _, _, _, y2⟩ := h4
       obtain ⟨v', y3, y4⟩ := y2 off hlt
       have hp : VRel ρ (evX x (TL ops nt val τ0 L ops.size)) (a.eval x) := he x
       have hx : evX x (TL ops nt val τ0 L ops.size) = evX x (s j).τ := by
        exact yc T hn hτ I.cl hcu ho hL x (by rw [z1]; simp [Op.operands])
       rw [hx, z3] at hp
       simp only [VRel] at hp
       obtain ⟨c', w1, w2⟩ := hp
       rw [h1] at w1
       obtain rfl := Option.some.inj w1
       have hrun : (execOp a.eval o).run PP w = .ok (.value v') w := by
        unfold execOp
        rw [z1]
        simp only [zR]
        rw [al3 z2 w2 y1 y3]; rfl
       rw [Oper.semAt_eq ro a.eval o (fun c => by rw [z1]; exact fun h => by cases h), hrun]
       exact next _ _ _ _ (I.quiet T hn ho hL hcu hE hF hM (Adv.refl I.adv.rel) (by rw [← z7]; exact y4))
      ·cases z7
    | _ => cases z7
   cases hc : cls pm o.op with
   | pu =>
     rw [hc] at f4
     exact quiet (f4.2.2.2.2.2.2 hb _) (notE (by rw [hc]; simp)) (notF (by rw [hc]; simp)) (notM (by rw [hc]; simp))
   | rd =>
     rw [hc] at f4
     rcases f4.2.2.2.2.2.2 hb with f1 | hh
     rotate_left
     ·exact held hh (notE (by rw [hc]; simp)) (notF (by rw [hc]; simp)) (notM (by rw [hc]; simp))
     refine quiet (T.read ho hc f1 I.le ?_ ?_) (notE (by rw [hc]; simp)) (notF (by rw [hc]; simp)) (notM (by rw [hc]; simp))
     ·intro x hx hbf
      have := ca hcu hbf (fx L j)
      rw [az L (by rintro rfl; exact notE (by rw [hc]; simp) hx)] at this
      exact (I.ph x hx).1 this
     ·intro x hx hlt
      cases hbf : bu ops j x with
      | false => rfl
      | true => have := ca I.cl hbf ((I.ph x hx).2 hlt); rw [hL] at this; cases this
   | fl =>
     rw [hc] at f4
     obtain ⟨_, _, _, _, f5⟩ := f4
     obtain ⟨_, _, hpo, hm, hob, hev⟩ := f5 hb
     have hF : FW pm ops wt j := ⟨hb, o, ho, hc⟩
     cases hw : (s e).w with
     | mk h nx =>
       have hrel := I.adv.rel
       rw [hw] at hrel
       have hN := adx (a := .mk h (s j).fk) (e := a.eval) hrel.rekeyed he o
       rw [hcong, hev] at hN
       obtain ⟨ρ', w', hA, hrun⟩ := hN (by
        intro k h1 h2
        simp only [W.nx_mk] at h1 h2
        rw [K.succ_num hm] at h2
        rw [K.num_inj (show k.num = (s j).fk.num by omega)]
        exact I.none j hF hL)
       rw [Oper.semAt_eq ro a.eval o (j1 (.inl ⟨_, _, hev h⟩))]
       rcases hrun with ⟨v', hrun, hv⟩ | ⟨hrun, hv⟩
       ·rw [hrun]; exact next _ _ _ _ (I.float T hn ho hL hcu hF hw hm hob (fun q => (hpo q).2.2) hA hv)
       ·rw [hrun]; exact next _ _ _ _ (I.float T hn ho hL hcu hF hw hm hob (fun q => (hpo q).2.2) hA (by rw [hv]; exact j9 ρ'))
   | mu =>
     rw [hc] at f4
     obtain ⟨m1, m2, m3, m4, m5, m6, m7, t, m, x, y, k, es, hop, hpv, hpv', hk1, hk2, hk3⟩ := f4
     have hM : MU pm ops j := ⟨o, ho, hc⟩
     have hjl := (zI.1 ho).1
     rcases T.pv j (by omega) with ⟨q, _⟩ | ⟨i, hp, hij, hi, q⟩
     ·rw [q] at hpv; cases hpv
     ·rw [q] at hpv
      injection hpv with e1 e2
      subst e1
      have hLi : L i = true := by
       have := T.mu_done hcu hp hM (fx L j)
       rw [az L (by omega)] at this
       exact this
      have hadv := aax I.adv (I.pheld i hi hp hLi)
      have hkv : wa pm ops s j = [(evX x (s j).τ, evX y (s j).τ)] := by rw [ann ho hc]; unfold a2r; rw [hop]
      have hnone : zr (evX x (s j).τ) (dn pm ops s L ops.size) = true := by
       refine ajk fun f hf => ?_
       obtain ⟨z, z1, z2, z3⟩ := abm _ hf
       have hme : (evX x (s j).τ, evX y (s j).τ) ∈ wa pm ops s j := by rw [hkv]; simp
       rcases Nat.lt_trichotomy z j with h | h | h
       ·exact (aht (T.far hp hi h hjl z3 hme)).2
       ·subst h; rw [hL] at z2; cases z2
       ·exact (aht (T.far hp hi h z1 hme z3)).1
      have hev : zOp o.op (s j).τ (wset (s i).fk (.umap (dn pm ops s L ops.size)) (s e).w) =
        .val ff (wset (s i).fk (.umap (dn pm ops s L ops.size ++ [(evX x (s j).τ, evX y (s j).τ)])) (wset (s i).fk (.umap (dn pm ops s L ops.size)) (s e).w)) := by
       rw [hop, ug (fun _ => rfl)]
       show j6 (o7 t (evX m (s j).τ) (evX x (s j).τ) (evX y (s j).τ) _) = _
       have hg : bz (s i).fk (wset (s i).fk (.umap (dn pm ops s L ops.size)) (s e).w) = .umap (dn pm ops s L ops.size) := by
        rw [ar, c8]; simp only [W.h_mk]; rw [af]
       unfold o7
       rw [hk3, hk1, hk2]
       simp only [Bool.and_self, aa, if_true, hg, hnone]
       rfl
      have hN := adx (e := a.eval) hadv.rel he o
      rw [hcong, hev] at hN
      obtain ⟨ρ', w', hA, hrun⟩ := hN (by
       refine Clean.fresh (ρ := ρ) ?_ _
       intro z hz
       rw [mi] at hz
       exact I.clean z hz)
      rw [Oper.semAt_eq ro a.eval o (j1 (.inl ⟨_, _, hev⟩))]
      rcases hrun with ⟨v', hrun, hv⟩ | ⟨hrun, hv⟩
      ·rw [hrun]; exact next _ _ _ _ (I.mu T hn ho hL hcu (notE (by rw [hc]; simp)) (notF (by rw [hc]; simp)) hi hp hLi hkv hA (by rw [m7]; exact hv))
      ·rw [hrun]; exact next _ _ _ _ (I.mu T hn ho hL hcu (notE (by rw [hc]; simp)) (notF (by rw [hc]; simp)) hi hp hLi hkv hA (by rw [m7, hv]; exact j9 ρ'))
   | ef =>
     rw [hc] at f4
     obtain ⟨_, _, _, _, _, _, f5⟩ := f4
     have hE : E pm ops j := ⟨o, ho, hc⟩
     obtain ⟨b1, b2, b3, b4, b5, _⟩ := I.before T hL hcu hE
     have hN := adx (e := a.eval) b3.rel he o
     rw [hcong] at hN
     rcases f5 hb with hev | ⟨f, vs, W1, hev, hen⟩ | ⟨f, vs, W1, ch, W2, hev, hen⟩
     ·rw [hev] at hN
      obtain ⟨ρ', w', hA, hrun⟩ := hN (b4.fresh _)
      rw [Oper.semAt_eq ro a.eval o (j1 (.inl ⟨_, _, hev⟩))]
      rcases hrun with ⟨v', hrun, hv⟩ | ⟨hrun, hv⟩
      ·rw [hrun]; exact next _ _ _ _ (I.effect T hn ho hL hcu hE hA hv)
      ·rw [hrun]; exact next _ _ _ _ (I.effect T hn ho hL hcu hE hA (by rw [hv]; exact j9 ρ'))
     ·rw [hev] at hN
      obtain ⟨ρ1, w1, args, hA, hrun, hv⟩ := hN (b4.fresh _)
      rw [Oper.semAt_eq ro a.eval o (j1 (.inr ⟨_, _, _, hev⟩))]
      rw [hrun]
      have hC := oz hs (hg0.mono (b3.trans hA).le) hA.rel (b4.adv hA) hv (by rw [hen]; trivial)
      rw [hen] at hC
      refine Calls.mono hC fun en w2 hp => ?_
      obtain ⟨v', ρ2, rfl, hv', hA2⟩ := hp
      exact next _ _ _ _ (I.effect T hn ho hL hcu hE (hA.trans hA2) hv')
     ·rw [hev] at hN
      obtain ⟨ρ1, w1, args, hA, hrun, hv⟩ := hN (b4.fresh _)
      rw [Oper.semAt_eq ro a.eval o (j1 (.inr ⟨_, _, _, hev⟩))]
      rw [hrun]
      have hC := oz hs (hg0.mono (b3.trans hA).le) hA.rel (b4.adv hA) hv (by rw [hen]; trivial)
      rw [hen] at hC
      refine Calls.mono hC fun en w2 hp => ?_
      obtain ⟨ch', ρ2, rfl, hch, hA2⟩ := hp
      exact ⟨by simp, pan f vs W1 ch W2 hb hc hev hen ρ2 w2 ch' hch ((b3.trans hA).trans hA2) ((b4.adv hA).adv hA2) (Env.le_trans hA.le hA2.le)⟩
theorem ar7 (hs : Sound ih) (T : Tr pm ih ops nt s val wt obj h0 nx0 nx1) (hn : nt ≤ 512) (hτ : (s 0).τ = τ0) (hg0 : GRel ρ0)
  (hno : ∀ j o f vs W1 ch W2, ops[j]? = some o → wt j = true → cls pm o.op = .ef → zOp o.op (s j).τ (cm (bo ops j) (s j).pend (s j).w) = .call f vs W1 → enter ih f vs W1 = .pan ch W2 → False)
  (fin : ∀ L e ρ a w, IV pm ops nt s val wt obj h0 nx0 nx1 τ0 ρ0 w0 a0 L e ρ a w → (∀ j, j < ops.size → L j = true) → Q .normal a cs w) :
  ∀ (fuel t : Nat) (listed : Array Bool) (e : Nat) (ρ : Env) (a : Act) (w : World), listed.size = ops.size → un (ib listed) ops.size = fuel → IV pm ops nt s val wt obj h0 nx0 nx1 τ0 ρ0 w0 a0 (ib listed) e ρ a w →
   iq d ro PP ops Q (Region.linearise.go .any ops fuel t listed []) a cs w := by
 intro fuel
 induction fuel with
 | zero =>
   intro t listed e ρ a w hsz hu I
   exact fin _ e ρ a w I (ahf _ hu)
 | succ fuel ih =>
   intro t listed e ρ a w hsz hu I
   simp only [Region.linearise.go]
   change iq d ro PP ops Q (match (Region.ready .any ops listed)[t % (Region.ready .any ops listed).length]? with
    | some i => Region.linearise.go .any ops fuel (t / (Region.ready .any ops listed).length) (listed.setIfInBounds i true) [i]
    | none => [].reverse) a cs w
   cases hi : (Region.ready .any ops listed)[t % (Region.ready .any ops listed).length]? with
   | none =>
     have hnil : Region.ready .any ops listed = [] := by
      cases hr : Region.ready .any ops listed with
      | nil => rfl
      | cons x xs =>
        rw [hr] at hi
        have hlt : t % (x :: xs).length < (x :: xs).length := Nat.mod_lt _ (by simp)
        simp at hi
        simp at hlt
        omega
     have hall := afg T.drawn hsz hnil
     rw [az5 _ hall] at hu
     cases hu
   | some i =>
     have hmem := List.mem_of_getElem? hi
     obtain ⟨hL, o, ho, hed⟩ := ac4 hsz hmem
     have hlt := (zI.1 ho).1
     dsimp only
     rw [linearise_go_acc, List.reverse_singleton, List.singleton_append]
     refine aeh hs T hn hτ hg0 I ho hL hed ho rfl (fun f vs W1 ch W2 h1 h2 h3 h4 => (hno i o f vs W1 ch W2 ho h1 h2 h3 h4).elim) fun e' ρ' a' w' I' => ?_
     have bn := ae7 (listed := listed) (j := i) (by omega)
     refine ih _ (listed.setIfInBounds i true) e' ρ' a' w' (by rw [Array.size_setIfInBounds]; exact hsz) ?_ (by rw [bn]; exact I')
     rw [bn]
     have := az6 hL ops.size hlt
     omega
theorem ar8 (hs : Sound ih) (T : Tr pm ih ops nt s val wt obj h0 nx0 nx1) (hn : nt ≤ 512) (hτ : (s 0).τ = τ0) (hg0 : GRel ρ0) {opr : Array Oper} (hd : Drawn pm opr) {p : Nat} (hp : ops.size = opr.size) (hle : p < opr.size) (hpp : bu opr p p = false)
  (hpre : ∀ i, bu opr p i = false → opr[i]? = ops[i]?) (hy : ∀ i o tmps, bu opr p i = false → opr[i]? = some o → Region.wanted o (yielded opr tmps) = Region.wanted o (yielded ops tmps))
  (hno : ∀ j o f vs W1 ch W2, j ≠ p → bu opr p j = false → ops[j]? = some o → wt j = true → cls pm o.op = .ef → zOp o.op (s j).τ (cm (bo ops j) (s j).pend (s j).w) = .call f vs W1 → enter ih f vs W1 = .pan ch W2 → False)
  {op : Oper} (hop : ops[p]? = some op) (hwp : wt p = true) (hcp : cls pm op.op = .ef) {ch : List PE} {W2 : W} {f : FuncId} {vs : List AV} {W1 : W} (hev : zOp op.op (s p).τ (cm (bo ops p) (s p).pend (s p).w) = .call f vs W1) (hen : enter ih f vs W1 = .pan ch W2)
  (fin : ∀ L e ρ a w ρ' w' ch', IV pm ops nt s val wt obj h0 nx0 nx1 τ0 ρ0 w0 a0 L e ρ a w → ChRel ρ' ch ch' → Adv ρ0 (.mk h0 nx0) w0 ρ' W2 w' → Clean ρ' W2 → ρ.le ρ' → Q (.panic ch') a cs w') :
  ∀ (fuel t : Nat) (listed : Array Bool) (e : Nat) (ρ : Env) (a : Act) (w : World), listed.size = opr.size → un (ib listed) opr.size = fuel → (∀ i, i = p ∨ bu opr p i = true → ib listed i = false) → fb opr (ib listed) → IV pm ops nt s val wt obj h0 nx0 nx1 τ0 ρ0 w0 a0 (ib listed) e ρ a w →
   iq d ro PP opr Q (Region.linearise.go .any opr fuel t listed []) a cs w := by
 intro fuel
 induction fuel with
 | zero =>
   intro t listed e ρ a w hsz hu hf hcl I
   have := ahf _ hu p hle
   rw [hf p (.inl rfl)] at this
   cases this
 | succ fuel ih' =>
   intro t listed e ρ a w hsz hu hf hcl I
   simp only [Region.linearise.go]
   change iq d ro PP opr Q (match (Region.ready .any opr listed)[t % (Region.ready .any opr listed).length]? with
    | some i => Region.linearise.go .any opr fuel (t / (Region.ready .any opr listed).length) (listed.setIfInBounds i true) [i]
    | none => [].reverse) a cs w
   cases hi : (Region.ready .any opr listed)[t % (Region.ready .any opr listed).length]? with
   | none =>
     have hnil : Region.ready .any opr listed = [] := by
      cases hr : Region.ready .any opr listed with
      | nil => rfl
      | cons x xs =>
        rw [hr] at hi
        have hlt : t % (x :: xs).length < (x :: xs).length := Nat.mod_lt _ (by simp)
        simp at hi
        simp at hlt
        omega
     have hall := afg hd hsz hnil p hle
     rw [hf p (.inl rfl)] at hall
     cases hall
   | some i =>
     have hmem := List.mem_of_getElem? hi
     obtain ⟨hL, o, ho, hed⟩ := ac4 hsz hmem
     have hlt := (zI.1 ho).1
     have hcu := x7 (j := i) hcl ho hed
     have hnb : bu opr p i = false := by
      cases hb : bu opr p i with
      | false => rfl
      | true =>
        exfalso
        have hpi : p ≠ i := by rintro rfl; rw [hpp] at hb; cases hb
        have := ca hcu hb (fx _ i)
        rw [az _ hpi, hf p (.inl rfl)] at this
        cases this
     have hoT : ops[i]? = some o := by rw [← hpre i hnb]; exact ho
     dsimp only
     rw [linearise_go_acc, List.reverse_singleton, List.singleton_append]
     by_cases hip : i ≠ p
     ·refine aeh hs T hn hτ hg0 I hoT hL hed ho (hy i o _ hnb ho) (fun f vs W1 ch W2 h1 h2 h3 h4 => (hno i o f vs W1 ch W2 hip hnb hoT h1 h2 h3 h4).elim) fun e' ρ' a' w' I' => ?_
      have bn := ae7 (listed := listed) (j := i) (by omega)
      refine ih' _ (listed.setIfInBounds i true) e' ρ' a' w' (by rw [Array.size_setIfInBounds]; exact hsz) ?_ ?_ (by rw [bn]; exact hcu) (by rw [bn]; exact I')
      ·rw [bn]
       have := az6 hL opr.size hlt
       omega
      ·intro k hk
       rw [bn, az _ (by rintro rfl; rcases hk with hk | hk; exact hip hk; rw [hnb] at hk; cases hk)]
       exact hf k hk
     ·have hip : i = p := Classical.byContradiction hip
      subst hip
      rw [hop] at hoT
      cases hoT
      have hcu' := x7 I.cl hop hed
      have hE : E pm ops i := ⟨op, hop, hcp⟩
      have he : ∀ x, VRel ρ (evX x (TL ops nt val τ0 (ib listed) ops.size)) (a.eval x) := by
       intro x
       have := agb (fr := (default : Frame).at a []) (hg0.mono I.adv.le) (τ := TL ops nt val τ0 (ib listed) ops.size) I.fr x
       rw [Frame.eval_at] at this
       exact this
      have hfa := T.fact i op hop
      unfold d6 at hfa
      obtain ⟨f1, f2, f3, f4⟩ := hfa
      have hwant : Region.wanted op (yielded ops a.tmps) = wt i := by
       cases hg : op.guard with
       | none => rw [hg] at f2; rw [f2]; unfold Region.wanted; rw [hg]
       | some g =>
         rw [hg] at f2
         exact adn hg I.fr (by rw [zx T hn hτ I.cl hcu' hop hL hg]; exact f2)
      simp only [iq, ho]
      rw [hy i op _ hpp ho, hwant, hwp, if_pos rfl]
      have hcong : ∀ x, zOp op.op (TL ops nt val τ0 (ib listed) ops.size) x = zOp op.op (s i).τ x := fun x => afr op.op (yc T hn hτ I.cl hcu' hop hL)
      obtain ⟨b1, b2, b3, b4, b5, _⟩ := I.before T hL hcu' hE
      have hN := adx (e := a.eval) b3.rel he op
      rw [hcong, hev] at hN
      obtain ⟨ρ1, w1, args, hA, hrun, hv⟩ := hN (b4.fresh _)
      rw [Oper.semAt_eq ro a.eval op (j1 (.inr ⟨_, _, _, hev⟩))]
      rw [hrun]
      have hC := oz hs (hg0.mono (b3.trans hA).le) hA.rel (b4.adv hA) hv (by rw [hen]; trivial)
      rw [hen] at hC
      refine Calls.mono hC fun en w2 hp => ?_
      obtain ⟨ch', ρ2, rfl, hch, hA2⟩ := hp
      exact ⟨by simp, fin _ e ρ a w ρ2 w2 ch' I hch ((b3.trans hA).trans hA2) ((b4.adv hA).adv hA2) (Env.le_trans hA.le hA2.le)⟩
theorem aee (hn : nt ≤ 512) {t : Nat} (ht : t < 512) : ∀ (l : List Oper) (τ : F), ev t (u1 nt l τ) = .top ∨ (ev t (u1 nt l τ) = ev t τ ∧ ∀ o ∈ l, ¬ (o.dst = some t ∧ t < nt))
 | [], τ => .inr ⟨rfl, fun _ h => by cases h⟩
 | o :: l, τ => by
   simp only [u1]
   rcases aee hn ht l (md nt o.dst .top τ) with h | ⟨h1, h2⟩
   ·exact .inl h
   ·rw [iv hn ht] at h1
    by_cases e : o.dst = some t ∧ t < nt
    ·rw [if_pos e] at h1; exact .inl h1
    ·rw [if_neg e] at h1
     refine .inr ⟨h1, fun o' ho' => ?_⟩
     rcases List.mem_cons.1 ho' with q | q
     ·subst q; exact e
     ·exact h2 o' q
theorem aok (hn : nt ≤ 512) {t : Nat} (ht : t < 512) (h : ∀ (k : Nat) (o : Oper), ops[k]? = some o → ¬ (o.dst = some t ∧ t < nt)) : ∀ k, ev t (TL ops nt val τ0 L k) = ev t τ0
 | 0 => rfl
 | k + 1 => by
   have ih := aok hn ht h k
   cases hL : L k with
   | false => rw [qr hL]; exact ih
   | true =>
     cases ho : ops[k]? with
     | none => simp only [TL, hL, cond_true, ho]; exact ih
     | some o => rw [vh ho hL, iv hn ht, if_neg (h k o ho)]; exact ih
theorem ac8 : ∀ (n : Nat) (k k' : K), ajw n k = some k' → k'.num = k.num + n
 | 0, k, k', h => by injection h with h; rw [h]; rfl
 | n + 1, k, k', h => by
   simp only [ajw, aa] at h
   split at h
   ·cases h
   ·rename_i hm
    have := ac8 n k.succ k' h
    rw [K.succ_num (by simpa using hm)] at this
    omega
theorem ahe (h : ∀ i, L i = false) : ∀ k, TL ops nt val τ0 L k = τ0
 | 0 => rfl
 | k + 1 => by rw [qr (h k)]; exact ahe h k
theorem ajt : PP.follows .mixedOrders = true := by kernel_rfl
end
section
variable {ρ : Env} {nt : Nat} {d : Bool} {rk : Option K} {ro : Option Nat} {c₀ : Frame} {cs₀ : List Frame} {τ : F} {ds : List AD} {um : UM} {aw : W} {a : Act} {cs : List Frame} {w : World}
theorem ahr {h : H4} {nx nx' : K} (hw : WRel ρ (.mk h nx) w) (hn : nx.num ≤ nx'.num) : Adv ρ (.mk h nx) w ρ (.mk h nx') w :=
 ⟨hw.rekeyed, Env.le_refl ρ, fun _ => .inl rfl, hn, zY _, fun _ h => .inl h, fun k _ h e => .inl ⟨k, h, e⟩, fun _ _ _ => rfl, fun _ _ h => ⟨rfl, h⟩, rfl, rfl, rfl⟩
theorem aib {pm : PM} {ih : Ih} (hs : Sound ih) {ops : Array Oper} {id f : Nat} (hpm : ∀ i d, pm = .mk i d → ∃ o, ops[i]? = some o ∧ o.dst = some d ∧ cls pm o.op = .fl) (h : SRel ρ nt d c₀ cs₀ τ ds um aw a cs w) (hr : (aa2 pm ops ih (.mk f nt d rk) (.mk τ ds um aw)).ok) :
  WS d ro f PP (.region id ops true) (Post ρ aw w nt d c₀ cs₀ (aa2 pm ops ih (.mk f nt d rk) (.mk τ ds um aw))) a cs w := by
 obtain ⟨h0, nx0⟩ := aw
 refine ado fun t => ?_
 have hcd : aa2 pm ops ih (.mk f nt d rk) (.mk τ ds um (.mk h0 nx0)) = bc (u3 pm ops) (abh pm ih ops nt f τ h0 nx0 ds um (ajw (l8 pm ops.toList) nx0)) (.no 238 f) := rfl
 rw [hcd] at hr ⊢
 cases hok : u3 pm ops with
 | false => rw [hok] at hr; exact hr.elim
 | true =>
   rw [hok] at hr
   have hr : (abh pm ih ops nt f τ h0 nx0 ds um (ajw (l8 pm ops.toList) nx0)).ok := hr
   show iq d ro PP ops (Post ρ (.mk h0 nx0) w nt d c₀ cs₀ (abh pm ih ops nt f τ h0 nx0 ds um (ajw (l8 pm ops.toList) nx0))) _ a cs _
   cases hv : ajw (l8 pm ops.toList) nx0 with
   | none => rw [hv] at hr; exact hr.elim
   | some nx1 =>
     rw [hv] at hr
     simp only [abh] at hr ⊢
     cases hd : abf pm ih ops nt f ops.toList 0 (.mk τ (.mk h0 nx1) nx0 [] [] [] .none) with
     | no c g => rw [hd] at hr; exact hr.elim
     | pan ch w2 p sP =>
       rw [hd] at hr
       obtain ⟨s, k, s0, hpk, sP1, hst, op, hopl, hsp⟩ := afm ops.toList 0 _ hd
       have hkp : k = p := by omega
       subst hkp
       have hop : ops[k]? = some op := by simpa using hopl
       have hk := (zI.1 hop).1
       have hst : ∀ j o, j < k → ops[j]? = some o → n0 pm ih ops j o nt f (s j) = .ok (s (j + 1)) := by
        intro j o hj ho
        have := hst j o hj (by simpa using ho)
        simpa using this
       obtain ⟨_, hpm0, hfp, hcp, fc, vsc, W1, hev, hen⟩ := aj7 hsp
       subst hpm0
       have hr : (anj ih ops (cv ops k) f nt τ ds um ch w2 k sP).ok := hr
       show iq d ro PP ops (Post ρ (.mk h0 nx0) w nt d c₀ cs₀ (anj ih ops (cv ops k) f nt τ ds um ch w2 k sP)) _ a cs _
       unfold anj at hr ⊢
       cases hpok : ay9 ops (cv ops k) k with
       | false => rw [hpok] at hr; exact hr.elim
       | true =>
       rw [hpok] at hr
       have hr : (ah9 ops (cv ops k) f nt τ ds um ch w2 (abf .none ih (cv ops k) nt f ((cv ops k).toList.drop (k + 1)) (k + 1) sP)).ok := hr
       show iq d ro PP ops (Post ρ (.mk h0 nx0) w nt d c₀ cs₀ (ah9 ops (cv ops k) f nt τ ds um ch w2 (abf .none ih (cv ops k) nt f ((cv ops k).toList.drop (k + 1)) (k + 1) sP))) _ a cs _
       cases htl : abf .none ih (cv ops k) nt f ((cv ops k).toList.drop (k + 1)) (k + 1) sP with
       | no c g => rw [htl] at hr; exact hr.elim
       | pan c1 w1 p1 s1 => rw [htl] at hr; exact hr.elim
       | ok sN =>
       rw [htl] at hr
       obtain ⟨s2, s20, s2n, hst2⟩ := az4 _ (k + 1) _ sN htl
       unfold ay9 at hpok
       obtain ⟨hcut, hpok⟩ := bc_and.1 hpok
       obtain ⟨hnbe, hagr⟩ := bc_and.1 hpok
       have hnb : ∀ j, j ≤ k → bu ops k j = false := by
        intro j hj
        have := (vn _).1 hnbe j (by show j < k + 1; omega)
        rw [aae] at this
        simpa using this
       have hsz : (cv ops k).size = ops.size := akv ops k
       have hT : ∀ i, bu ops k i = false → ops[i]? = (cv ops k)[i]? := by
        intro i hi
        rw [xu, hi]
        simp
       have hag : ∀ j, j < ops.size → bu ops k j = false → bo ops j = bo (cv ops k) j ∧ (pg .none (cv ops k) j = true → pg .none ops j = true) ∧ ∀ o, ops[j]? = some o → ∀ g, o.guard = some g → bu ops k g.1 = false := by
        intro j hj hb
        have := (vn _).1 hagr j (by rw [uc]; exact hj)
        unfold a39 at this
        rw [hb] at this
        have this : bc (Nat.beq (bo ops j) (bo (cv ops k) j)) (bc (bc (pg .none (cv ops k) j) (pg .none ops j) true) (match nth ops.toList j with
         | some o => ab8 ops k o
         | none => true) false) false = true := this
        obtain ⟨q1, this⟩ := bc_and.1 this
        obtain ⟨q2, q3⟩ := bc_and.1 this
        refine ⟨zW q1, bc_imp.1 q2, fun o ho g hg => ?_⟩
        rw [oh] at q3
        simp only [Array.getElem?_toList, ho] at q3
        unfold ab8 at q3
        rw [hg] at q3
        have q3 : xv (bu ops k g.1) = true := q3
        rw [aae] at q3
        simpa using q3
       have hwn : ∀ j o g τ', j < ops.size → bu ops k j = false → ops[j]? = some o → o.guard = some g → jz g ops.toList τ' = jz g (cv ops k).toList τ' := by
        intro j o g τ' hj hb ho hg
        have := (hag j hj hb).2.2 o ho g hg
        unfold jz
        rw [oh, oh]
        simp only [Array.getElem?_toList]
        rw [hT g.1 this]
       have heff : ∀ x ∈ ad2 .none (cv ops k), x ∈ ad2 .none ops ∧ bo ops x = bo (cv ops k) x := by
        intro x hx
        obtain ⟨ox, q1, q2⟩ := effs_iff.1 hx
        have hb : bu ops k x = false := by
         cases hq : bu ops k x with
         | false => rfl
         | true =>
           rw [xu, hq] at q1
           cases hz : ops[x]? with
           | none => rw [hz] at q1; cases q1
           | some y => rw [hz] at q1; injection q1 with q1; rw [← q1] at q2; cases q2
        have q1' : ops[x]? = some ox := by rw [hT x hb]; exact q1
        exact ⟨effs_iff.2 ⟨ox, q1', q2⟩, (hag x (zI.1 q1').1 hb).1⟩
       have sf : ∃ sf : Nat → DS, (∀ j, j ≤ k → sf j = s j) ∧ ∀ j, k + 1 ≤ j → sf j = s2 j :=
        ⟨fun j => if j ≤ k then s j else s2 j, fun j hj => by simp [hj], fun j hj => by simp [show ¬ j ≤ k by omega]⟩
       obtain ⟨sf, sfl, sfh⟩ := sf
       have hstep2 : ∀ j o, k + 1 ≤ j → (cv ops k)[j]? = some o → n0 .none ih (cv ops k) j o nt f (sf j) = .ok (sf (j + 1)) := by
        intro j o hj ho
        have := hst2 (j - (k + 1)) o (by rw [List.getElem?_drop, show k + 1 + (j - (k + 1)) = j by omega]; simpa using ho)
        rw [show k + 1 + (j - (k + 1)) = j by omega] at this
        rw [sfh j hj, sfh (j + 1) (by omega)]
        exact this
       have hfx : ∀ j, ∃ x : AV × Bool × AObj, ∀ o, (cv ops k)[j]? = some o → d6 .none ih (cv ops k) nt j o (sf j) (sf (j + 1)) x.1 x.2.1 x.2.2 ∧ (j = k → x.2.1 = true) := by
        intro j
        cases ho : (cv ops k)[j]? with
        | none => exact ⟨(.top, true, .none), fun o h => by cases h⟩
        | some o =>
          have hjs : j < ops.size := by have := (zI.1 ho).1; omega
          rcases Nat.lt_trichotomy j k with hlt | heq | hgt
          ·have hb := hnb j (by omega)
           have ho' : ops[j]? = some o := by rw [hT j hb]; exact ho
           obtain ⟨v, b, ob, hf⟩ := yz (hst j o hlt ho')
           refine ⟨(v, b, ob), fun o' h => ?_⟩
           cases h
           refine ⟨?_, fun e => by omega⟩
           rw [sfl j (by omega), sfl (j + 1) (by omega)]
           exact aih hf (hag j hjs hb).1 (hag j hjs hb).2.1 (fun g hg => hwn j o g _ hjs hb ho' hg) heff
          ·subst heq
           have hb := hnb j (zY _)
           have ho' : ops[j]? = some o := by rw [hT j hb]; exact ho
           rw [hop] at ho'
           cases ho'
           refine ⟨(.top, true, .none), fun o' h => ?_⟩
           cases h
           refine ⟨?_, fun _ => rfl⟩
           rw [sfl j (zY _), sfh (j + 1) (by omega), s20]
           exact aih hfp (hag j hjs hb).1 (hag j hjs hb).2.1 (fun g hg => hwn j op g _ hjs hb hop hg) heff
          ·obtain ⟨v, b, ob, hf⟩ := yz (hstep2 j o (by omega) ho)
           exact ⟨(v, b, ob), fun o' h => by cases h; exact ⟨hf, fun e => by omega⟩⟩
       obtain ⟨x, hx⟩ := Classical.skolem.1 hfx
       have hnum := ac8 _ _ _ hv
       have sfn : sf ops.size = sN := by
        rw [sfh ops.size (by omega), ← s2n]
        congr 1
        rw [List.length_drop]
        have : (cv ops k).toList.length = ops.size := by rw [← hsz]; simp
        omega
       have hrec : ul .none (cv ops k) (sf ops.size).recs ((ops.size, (sf ops.size).w) :: (sf ops.size).hist) = true ∧ ah9 ops (cv ops k) f nt τ ds um ch w2 (.ok sN) = .p ch (.mk (u1 nt ops.toList τ) ds um w2) := by
        rw [sfn]
        obtain ⟨τN, wN, fk, pend, hist, recs, pv⟩ := sN
        simp only [ah9] at hr ⊢
        rw [uc] at hr ⊢
        cases hq : ul .none (cv ops k) recs ((ops.size, wN) :: hist) with
        | false => rw [hq] at hr; exact hr.elim
        | true => exact ⟨hq, rfl⟩
       have hfl : l8 .none (cv ops k).toList ≤ l8 .none ops.toList := by
        show l8 .none (ke (aa0 ops) k ops.toList 0) ≤ _
        exact ahu _ _ _ _
       have s00 : sf 0 = s 0 := sfl 0 (Nat.zero_le _)
       have T : Tr .none ih (cv ops k) nt sf (fun j => (x j).1) (fun j => (x j).2.1) (fun j => (x j).2.2) h0 nx0 nx1 :=
        ⟨fun j o ho => (hx j o ho).1, rq hcut, by rw [s00, s0]; rfl, by rw [s00, s0]; rfl, by rw [s00, s0]; rfl, by omega, by rw [s00, s0]; rfl, (fun i d e => by cases e), (fun e => by cases e), by rw [hsz]; exact hrec.1⟩
       rw [hrec.2]
       have hsch : Region.schedule (PP.follows .mixedOrders) ops t = Region.linearise.go .any ops ops.size t (Array.replicate ops.size false) [] := by
        rw [ajt]; rfl
       rw [hsch]
       have hall : ∀ i, ib (Array.replicate ops.size false) i = false := by
        intro i
        unfold ib
        rw [Array.getD_eq_getD_getElem?, Array.getElem?_replicate]
        split <;> rfl
       have hw0 : (sf 0).w = .mk h0 nx1 := T.w0
       have hwd : WRel ρ (.mk h0 nx0) { w with drawn := w.drawn + 1 } := ⟨h.wr.inj, h.wr.dom, h.wr.len, fun k kd g hk => let q := h.wr.gho k kd g hk; ⟨q.root, q.rel, q.lt, q.sep, q.dis⟩⟩
       have hopT : (cv ops k)[k]? = some op := by rw [← hT k (hnb k (zY _))]; exact hop
       refine ar8 hs T h.le (τ0 := τ) (by rw [s00, s0]; rfl) (ρ0 := ρ) (w0 := { w with drawn := w.drawn + 1 }) (a0 := a) h.g (rq hok) hsz hk (hnb k (zY _)) hT ?_ ?_ hopT ((hx k op hopT).2 rfl) hcp (by rw [sfl k (zY _), ← (hag k hk (hnb k (zY _))).1]; exact hev) hen ?_ ops.size t _ 0 ρ a _ (by simp) ?_ (fun i _ => hall i) (fun j o _ hj => by rw [hall] at hj; cases hj) ?_
       ·intro i o tmps hi ho
        unfold Region.wanted
        cases hg : o.guard with
        | none => rfl
        | some g =>
          have := (hag i (zI.1 ho).1 hi).2.2 o ho g hg
          obtain ⟨gj, gw⟩ := g
          unfold yielded
          dsimp only
          rw [hT gj this]
       ·intro j o f' vs W1 ch W2 hj hb ho hwt hc h1 h2
        have hfa := (hx j o ho).1.2.1
        rcases Nat.lt_or_ge j k with hlt | hge
        ·have hjs : j < ops.size := by omega
         have ho' : ops[j]? = some o := by rw [hT j hb]; exact ho
         refine yu (hst j o hlt ho') hc ?_ (by rw [(hag j hjs hb).1, ← sfl j (by omega)]; exact h1) h2
         rw [sfl j (by omega)] at hfa
         cases hg : o.guard with
         | none => trivial
         | some g => rw [hg] at hfa; dsimp only at hfa ⊢; rw [hwn j o g _ hjs hb ho' hg, hfa, hwt]
        ·refine yu (hstep2 j o (by omega) ho) hc ?_ h1 h2
         cases hg : o.guard with
         | none => trivial
         | some g => rw [hg] at hfa; dsimp only at hfa ⊢; rw [hfa, hwt]
       ·intro L e ρ1 a' w1 ρ' w' ch' I hch hA hcl hle
        have hA : Adv ρ (.mk h0 nx0) w ρ' w2 w' := ⟨hA.rel, hA.le, hA.rng, hA.nx, hA.size, hA.own, hA.keep, hA.frame, hA.fts, hA.os, hA.tape, hA.output⟩
        have hfr : FRel ρ' (u1 nt ops.toList τ) a'.tmps := by
         intro t
         by_cases ht : t < 512
         ·rcases aee h.le ht ops.toList τ with q | ⟨q1, q2⟩
          ·rw [q]; simp only [VRel]
          ·rw [q1]
           have := (I.fr.mono hle) t
           rw [aok h.le ht (fun k' o ho => by
            rw [xu] at ho
            cases ho1 : ops[k']? with
            | none => rw [ho1] at ho; cases ho
            | some o1 =>
              rw [ho1] at ho
              simp only [Option.map_some] at ho
              cases hb : bu ops k k' with
              | true => rw [hb] at ho; cases ho; rintro ⟨e, _⟩; cases e
              | false => rw [hb] at ho; cases ho; exact q2 _ (List.mem_of_getElem? (by simpa using ho1)))] at this
           exact this
         ·rw [o8 (by omega)]; simp only [VRel]
        exact ⟨ch', ρ', rfl, hch, hA, h.g.mono hA.le, hA.rel, hcl, hfr, I.sz, h.le, by rw [I.dr]; exact DRels.mono hA.le _ _ h.dr, h.um.mono hA.le⟩
       ·have : ∀ n, un (ib (Array.replicate ops.size false)) n = n := by
         intro n
         induction n with
         | zero => rfl
         | succ n ih => simp only [un, ih, hall n, cond_false]
        exact this _
       ·refine ⟨fun j o _ hj => ?_, Nat.zero_le _, fun x _ => ?_, ?_, ?_, ?_, ?_, h.sz, rfl, fun j _ _ hj => ?_, fun i j _ _ hi => ?_, fun j _ hj => ?_, fun j hF _ => ?_, fun j _ _ hj => ?_⟩
        ·rw [hall] at hj; cases hj
        ·rw [hall]; simp
        ·rw [hw0]; exact ahr hwd (by omega)
        ·rw [hw0]; intro k hk; exact h.cl k (by simp only [W.nx_mk] at hk ⊢; omega)
        ·rw [hw0]; exact zY _
        ·rw [ahe hall]; exact h.fr
        ·rw [hall] at hj; cases hj
        ·rw [hall] at hi; cases hi
        ·rw [hall] at hj; cases hj
        ·exact h.cl _ (by simp only [W.nx_mk]; exact (T.key_lt hF).1)
        ·rw [hall] at hj; cases hj
     | ok sN =>
       rw [hd] at hr
       obtain ⟨s, s0, sn, hst⟩ := az4 ops.toList 0 _ sN hd
       have sn : s ops.size = sN := by rw [← sn]; simp
       have hst : ∀ j o, ops[j]? = some o → n0 pm ih ops j o nt f (s j) = .ok (s (j + 1)) := by
        intro j o ho
        have := hst j o (by simpa using ho)
        simpa using this
       have hfx : ∀ j, ∃ x : AV × Bool × AObj, ∀ o, ops[j]? = some o → d6 pm ih ops nt j o (s j) (s (j + 1)) x.1 x.2.1 x.2.2 := by
        intro j
        cases ho : ops[j]? with
        | none => exact ⟨(.top, true, .none), fun o h => by cases h⟩
        | some o =>
          obtain ⟨v, b, ob, hf⟩ := yz (hst j o ho)
          exact ⟨(v, b, ob), fun o' h => by cases h; exact hf⟩
       obtain ⟨x, hx⟩ := Classical.skolem.1 hfx
       have hnum := ac8 _ _ _ hv
       have hrec : ul pm ops (s ops.size).recs ((ops.size, (s ops.size).w) :: (s ops.size).hist) = true ∧ a4u pm ih ops f nt τ ds um (.ok sN) = .n (.mk (s ops.size).τ ds um (ars (s ops.size).pv (abd (s ops.size).pend (s ops.size).w))) ∧ azf (s ops.size).pv = true := by
        rw [sn]
        obtain ⟨τN, wN, fk, pend, hist, recs, pv⟩ := sN
        simp only [a4u] at hr ⊢
        rw [uc] at hr ⊢
        cases hq : ul pm ops recs ((ops.size, wN) :: hist) with
        | false => rw [hq] at hr; exact hr.elim
        | true =>
          rw [hq] at hr
          cases hq2 : azf pv with
          | false => rw [hq2] at hr; exact hr.elim
          | true => exact ⟨hq, rfl, hq2⟩
       have T : Tr pm ih ops nt s (fun j => (x j).1) (fun j => (x j).2.1) (fun j => (x j).2.2) h0 nx0 nx1 :=
        ⟨fun j o ho => hx j o ho, rq hok, by rw [s0]; rfl, by rw [s0]; rfl, by rw [s0]; rfl, by omega, by rw [s0]; rfl, hpm, fun _ => hrec.2.2, hrec.1⟩
       rw [hrec.2.1]
       have hsch : Region.schedule (PP.follows .mixedOrders) ops t = Region.linearise.go .any ops ops.size t (Array.replicate ops.size false) [] := by
        rw [ajt]; rfl
       rw [hsch]
       have hall : ∀ i, ib (Array.replicate ops.size false) i = false := by
        intro i
        unfold ib
        rw [Array.getD_eq_getD_getElem?, Array.getElem?_replicate]
        split <;> rfl
       have hw0 : (s 0).w = .mk h0 nx1 := T.w0
       have hwd : WRel ρ (.mk h0 nx0) { w with drawn := w.drawn + 1 } := ⟨h.wr.inj, h.wr.dom, h.wr.len, fun k kd g hk => let q := h.wr.gho k kd g hk; ⟨q.root, q.rel, q.lt, q.sep, q.dis⟩⟩
       have hno : ∀ j o f' vs W1 ch W2, ops[j]? = some o → (x j).2.1 = true → cls pm o.op = .ef → zOp o.op (s j).τ (cm (bo ops j) (s j).pend (s j).w) = .call f' vs W1 → enter ih f' vs W1 = .pan ch W2 → False := by
        intro j o f' vs W1 ch W2 ho hwt hc h1 h2
        have hfa := (hx j o ho).2.1
        refine yu (hst j o ho) hc ?_ h1 h2
        cases hg : o.guard with
        | none => trivial
        | some g => rw [hg] at hfa; dsimp only at hfa ⊢; rw [hfa, hwt]
       refine ar7 hs T h.le (τ0 := τ) (by rw [s0]; rfl) (ρ0 := ρ) (w0 := { w with drawn := w.drawn + 1 }) (a0 := a) h.g hno ?_ ops.size t _ 0 ρ a _ (by simp) ?_ ?_
       ·intro L e ρ' a' w' I hL
        have hwe : (s ops.size).w = (s e).w := by
         refine T.w_const ops.size I.le (zY _) fun x h1 h2 hx => ?_
         have := (I.ph x hx).1 (hL x h2)
         omega
        obtain ⟨p1, p2⟩ := T.pend ops.size (zY _)
        have hAll := (aq8 (s ops.size).pend (ρ := ρ') (a := (s ops.size).w) (w := w') (ρ0 := ρ) (a0 := .mk h0 nx0) (w0 := { w with drawn := w.drawn + 1 }) (fun p hp => by
         obtain ⟨q1, q2, q3, q4, q5, q6⟩ := p1 p hp
         rw [q4, q5, hwe]
         exact I.held p.i q2 q6 (hL _ q1) fun x hx hE => q3 x (by have := I.le; omega) hE) (by
         refine List.Pairwise.imp_of_mem (fun {p q} hp hq hlt => ?_) p2
         obtain ⟨q1, q2, _, q4, _⟩ := p1 p hp
         obtain ⟨r1, r2, _, r4, _⟩ := p1 q hq
         rw [q4, r4]
         exact I.sep p.i q.i q2 r2 (hL _ q1) (hL _ r1) (by omega)) (by rw [hwe]; exact I.adv))
        have hA : Adv ρ (.mk h0 nx0) { w with drawn := w.drawn + 1 } ρ' (ars (s ops.size).pv (abd (s ops.size).pend (s ops.size).w)) w' := by
         rcases T.pv ops.size (zY _) with ⟨q, _⟩ | ⟨i, hpi, hilt, hFi, q⟩
         ·rw [q]; exact hAll.1
         ·rw [q]
          have hH := I.pheld i hFi hpi (hL i hilt)
          rw [abl (L' := fun _ => true) ops.size fun i hi => hL i hi] at hH
          refine aax hAll.1 (hAll.2 _ _ (by rw [hwe]; exact hH) fun p hp => ?_)
          obtain ⟨q1, q2, q3, q4, q5, q6⟩ := p1 p hp
          rw [q4]
          refine I.sep p.i i q2 hFi (hL _ q1) (hL i hilt) ?_
          rintro rfl
          rw [hpi] at q6; cases q6
        have hA : Adv ρ (.mk h0 nx0) w ρ' (ars (s ops.size).pv (abd (s ops.size).pend (s ops.size).w)) w' := ⟨hA.rel, hA.le, hA.rng, hA.nx, hA.size, hA.own, hA.keep, hA.frame, hA.fts, hA.os, hA.tape, hA.output⟩
        have hfr : FRel ρ' (s ops.size).τ a'.tmps := by
         intro t
         have := I.fr t
         rw [akb T h.le (by rw [s0]; rfl) (zY _) (fun i o hi _ _ => hL i hi) (fun i o hi ho _ => by have := (zI.1 ho).1; omega)] at this
         exact this
        refine ⟨rfl, ρ', hA, h.g.mono hA.le, hA.rel, ?_, hfr, I.sz, h.le, by rw [I.dr]; exact DRels.mono hA.le _ _ h.dr, h.um.mono hA.le⟩
        intro k hk
        have hpn : ∀ (p : PV) (x : W), (ars p x).nx = x.nx := by intro p x; cases p <;> first | rfl | exact mi _ _ _
        rw [hpn, ay4, hwe] at hk
        exact I.clean k hk
       ·have : ∀ n, un (ib (Array.replicate ops.size false)) n = n := by
         intro n
         induction n with
         | zero => rfl
         | succ n ih => simp only [un, ih, hall n, cond_false]
        exact this _
       ·refine ⟨fun j o _ hj => ?_, Nat.zero_le _, fun x _ => ?_, ?_, ?_, ?_, ?_, h.sz, rfl, fun j _ _ hj => ?_, fun i j _ _ hi => ?_, fun j _ hj => ?_, fun j hF _ => ?_, fun j _ _ hj => ?_⟩
        ·rw [hall] at hj; cases hj
        ·rw [hall]; simp
        ·rw [hw0]; exact ahr hwd (by omega)
        ·rw [hw0]; intro k hk; exact h.cl k (by simp only [W.nx_mk] at hk ⊢; omega)
        ·rw [hw0]; exact zY _
        ·rw [ahe hall]; exact h.fr
        ·rw [hall] at hj; cases hj
        ·rw [hall] at hi; cases hi
        ·rw [hall] at hj; cases hj
        ·exact h.cl _ (by simp only [W.nx_mk]; exact (T.key_lt hF).1)
        ·rw [hall] at hj; cases hj
theorem a0z {ih : Ih} (hs : Sound ih) {ops : Array Oper} {id f : Nat} (h : SRel ρ nt d c₀ cs₀ τ ds um aw a cs w) (hr : (anf id ops ih (.mk f nt d rk) (.mk τ ds um aw)).ok) :
  WS d ro f PP (.region id ops true) (Post ρ aw w nt d c₀ cs₀ (anf id ops ih (.mk f nt d rk) (.mk τ ds um aw))) a cs w := by
 unfold anf at hr ⊢
 rw [aa] at hr ⊢
 split at hr
 ·rename_i hd
  rw [if_pos hd]
  exact aib hs (fun i d e => by cases e) h hr
 ·rename_i hd
  rw [if_neg hd]
  refine aib hs (fun i d e => ?_) h hr
  obtain ⟨_, o, h1, h2, h3⟩ := afc _ _ _ _ e
  refine ⟨o, by simpa using h1, h2, ?_⟩
  rw [e]
  show a0r d o.op = .fl
  cases hop : o.op <;> rw [hop] at h3 <;> first | (cases h3; done) | rfl
end
end Go.Ev
