import Derived.Test.YtdeddgiacdjjdaaGreatDoorEvTd
set_option maxRecDepth 100000
set_option linter.all false
namespace Go.Ev
noncomputable section
inductive EqL where
 | nil
 | g (a b : GE) (l : EqL)
 | i (a b : SE) (l : EqL)
def inG (a b : GE) : EqL → Bool
 | .nil => false
 | .g a' b' l => bc (kr a a') (bc (kr b b') true (inG a b l)) (inG a b l)
 | .i _ _ l => inG a b l
def inS (a b : SE) : EqL → Bool
 | .nil => false
 | .i a' b' l => bc (dk a a') (bc (dk b b') true (inS a b l)) (inS a b l)
 | .g _ _ l => inS a b l
def eqG (E : EqL) (a b : GE) : Bool := bc (kr a b) true (inG a b E)
def eqS (E : EqL) (a b : SE) : Bool := bc (dk a b) true (inS a b E)
def sq (T : List (Nat × Nat)) (nxi : Nat) (k : K) : Option K := match ez T k.num with
 | some m => some (K.of m)
 | none => bc (Nat.blt k.num nxi) (some k) none
def adj : List (Nat × Nat) → List (Nat × Nat)
 | [] => []
 | p :: l => (p.2, p.1) :: adj l
def n6 (κ : K → Option K) (a b : K) : Bool := match κ a with
 | some c => K.beq c b
 | none => false
def fnR (κ : K → Option K) (f g : Fn) : Bool := match f, g with
 | .yield n, .yield m => n6 κ (K.of n) (K.of m)
 | .yield _, _ => false
 | _, .yield _ => false
 | f, g => a03 f g
def leR (κ : K → Option K) (E : EqL) : Nat → AV → AV → Bool
 | 0, _, _ => false
 | n + 1, x, y => match x, y with
   | _, .top => true
   | .ptr b o, .ptr b' o' => bc (n6 κ b b') (Nat.beq o o') false
   | .slice b o l c none, .slice b' o' l' c' none => n6 κ b b' && Nat.beq o o' && Nat.beq l l' && Nat.beq c c'
   | .slice b o l c (some e), .slice b' o' l' c' (some e') => n6 κ b b' && Nat.beq o o' && Nat.beq l l' && Nat.beq c c' && Nat.beq e e'
   | .slice b o len _ (some es), .gv (.sl b' es' m A) => n6 κ b b' && Nat.beq o 0 && Nat.beq es es' && eqS E (.c (.ofNat len)) m && noA A
   | .map b, .map b' => n6 κ b b'
   | .func f x y, .func g x' y' => bc (fnR κ f g) (bc (leAV.leL (leR κ E n) x x') (leAV.leL (leR κ E n) y y') false) false
   | .iface t a, .iface t' b => bc (Nat.beq t t') (leR κ E n a b) false
   | .agg l, .agg m => leAV.leL (leR κ E n) l m
   | .tuple l, .tuple m => leAV.leL (leR κ E n) l m
   | .sym k e _, .sym k' e' A' => nb k k' && eqS E e e' && noA A'
   | .int k m, .sym k' e' A' => nb k k' && eqS E (.c m) e' && noA A'
   | .gv (.str g _), .gv (.str g' A') => eqG E g g' && noA A'
   | .str l m, .gv (.str g' A') => aai l m && eqG E (.lit l m) g' && noA A'
   | .gv (.sl b es n _), .gv (.sl b' es' n' A') => n6 κ b b' && Nat.beq es es' && eqS E n n' && noA A'
   | .gv (.ptr b es i o _), .gv (.ptr b' es' i' o' A') => n6 κ b b' && Nat.beq es es' && eqS E i i' && Nat.beq o o' && noA A'
   | .gv (.sr b o n _), .gv (.sr b' o' n' A') => n6 κ b b' && eqS E o o' && eqS E n n' && noA A'
   | .gv (.pr b o i _), .gv (.pr b' o' i' A') => n6 κ b b' && eqS E o o' && eqS E i i' && noA A'
   | a, b => bc (a48 a) (aog a b) false
def ag6 (f : AV → AV → Bool) : List (AV × AV) → List (AV × AV) → Bool
 | [], [] => true
 | a :: l, b :: m => bc (f a.1 b.1) (bc (f a.2 b.2) (ag6 f l m) false) false
 | _, _ => false
def anu (κ : K → Option K) (E : EqL) (e : SE) (t : TypeId) (k : K) : List GP → Bool
 | [] => false
 | .mk e' t' k' :: l => bc (eqS E e' e && Nat.beq t t' && n6 κ k' k) true (anu κ E e t k l)
def agh (κ : K → Option K) (E : EqL) (ps' : List GP) : List GP → Bool
 | [] => true
 | .mk e t k :: l => bc (anu κ E e t k ps') (agh κ E ps' l) false
def loR (κ : K → Option K) (E : EqL) (o : LO) (x : AObj) : Bool := match o, x with
 | .gp ro t n g ps, .gp ro' t' n' g' ps' => ao0 ro ro' && Nat.beq t t' && eqS E n' n && eqG E g' g && agh κ E ps' ps
 | .loop fn nt id l ps kd, .loop .ready none fn' nt' τ ps' x y kd' => Nat.beq fn fn' && Nat.beq nt nt' && acl ps ps' && n6 κ kd' kd && Nat.beq (ko y) id && (ud fn id).isSome && Nat.beq (bl l) nt && leAV.leL (leR κ E 8) (lg τ nt 0) l
 | .cells t e fl fh l, .cells t' s e' fl' fh' c => Nat.beq t t' && ao0 e e' && Nat.beq fl fl' && Nat.beq fh fh' && Nat.beq s (bl l) && Nat.ble s 65536 && leAV.leL (leR κ E 8) (ki c s 0) l
 | .map es, .map es' => ag6 (leR κ E 8) es' es
 | .gob (.gh t ks n g), .gob (.gh t' ks' n' g') => Nat.beq t t' && ayd ks ks' && eqS E n' n && eqG E g' g
 | .gob (.gmap m), .gob (.gmap m') => eqG E m' m
 | .gob (.iter g p A), .gob (.iter g' p' _) => eqG E g' g && eqS E p' p && noA A
 | .gob (.junk t), .gob (.gh t' _ _ _) => Nat.beq t t'
 | .gob (.lh k g), .gob (.lh k' g') => Nat.beq k k' && eqG E g' g
 | .gob (.rh o n g), .gob (.rh o' n' g') => eqS E o' o && eqS E n' n && eqG E g' g
 | .gob (.rb o n g), .gob (.rb o' n' g') => eqS E o' o && eqS E n' n && eqG E g' g
 | .gob (.gh t ks n g), .cells t' s e fl fh c => bc (agv [] (.gob (.gh t ks n g)) (.cells t' s e fl fh c)) true (agv [] (.gob (.gh t ks (.c (.ofNat (s / bl ks))) (amg ks (ki c ((s / bl ks) * bl ks) 0)))) (.cells t' s e fl fh c) && eqS E (.c (.ofNat (s / bl ks))) n && eqG E (amg ks (ki c ((s / bl ks) * bl ks) 0)) g)
 | .gob (.gmap m), .map es => (match ap2 es .nil with
   | some g => agv [] (.gob (.gmap g)) (.map es) && eqG E g m
   | none => false)
 | .gob g, x => agv [] (.gob g) x
 | _, _ => false
def im (T : List (Nat × Nat)) (nxi k : Nat) : Option Nat := bc (Nat.blt k nxi) (some k) (ez (adj T) k)
def ait (T : List (Nat × Nat)) (E : EqL) (nxi : Nat) (w : W) : List HO → Bool
 | [] => true
 | .mk k o :: l => bc (match im T nxi k with
   | some s => bc (Nat.blt s 65536 && Nat.blt k 65536) (loR (sq T nxi) E o (bz (K.of s) w)) false
   | none => false) (ait T E nxi w l) false
def tabOk (Lo : List HO) (T0 : List (Nat × Nat)) (nxi nxo : Nat) : List (Nat × Nat) → Bool
 | [] => true
 | p :: l => bc (Nat.ble 256 p.1 && (Nat.ble nxi p.1 || xv (qx p.1 Lo)) && Nat.blt p.1 65536 && Nat.ble nxi p.2 && Nat.blt p.2 nxo && optIs (ez T0 p.1) p.2 && optIs (ez (adj T0) p.2) p.1) (tabOk Lo T0 nxi nxo l) false
where optIs : Option Nat → Nat → Bool
 | some a, b => Nat.beq a b
 | none, _ => false
end
def EqL.all (σ : Nat → List Int) : EqL → Prop
 | .nil => True
 | .g a b l => a.eval σ = b.eval σ ∧ l.all σ
 | .i a b l => a.eval σ = b.eval σ ∧ l.all σ
section
variable [Gv]
theorem agl {a b : GE} : ∀ {E : EqL}, E.all Gv.σ → inG a b E = true → a.eval Gv.σ = b.eval Gv.σ
 | .nil, _, h => by cases h
 | .g a' b' l, hE, h => by
   simp only [inG, aa] at h
   split at h
   ·rename_i h1
    split at h
    ·rename_i h2
     rw [bw _ _ h1, bw _ _ h2]; exact hE.1
    ·exact agl hE.2 h
   ·exact agl hE.2 h
 | .i _ _ l, hE, h => agl hE.2 h
theorem agm {a b : SE} : ∀ {E : EqL}, E.all Gv.σ → inS a b E = true → a.eval Gv.σ = b.eval Gv.σ
 | .nil, _, h => by cases h
 | .i a' b' l, hE, h => by
   simp only [inS, aa] at h
   split at h
   ·rename_i h1
    split at h
    ·rename_i h2
     rw [av _ _ h1, av _ _ h2]; exact hE.1
    ·exact agm hE.2 h
   ·exact agm hE.2 h
 | .g _ _ l, hE, h => agm hE.2 h
theorem mz {E : EqL} (hE : E.all Gv.σ) {a b : GE} (h : eqG E a b = true) : a.eval Gv.σ = b.eval Gv.σ := by
 unfold eqG at h
 rw [aa] at h
 split at h
 ·rename_i h1; rw [bw _ _ h1]
 ·exact agl hE h
theorem gy {E : EqL} (hE : E.all Gv.σ) {a b : SE} (h : eqS E a b = true) : a.eval Gv.σ = b.eval Gv.σ := by
 unfold eqS at h
 rw [aa] at h
 split at h
 ·rename_i h1; rw [av _ _ h1]
 ·exact agm hE h
variable {ρ1 ρ2 : Env} {κ : K → Option K} {E : EqL}
theorem dq (hk : ∀ k k', κ k = some k' → gd ρ1 ρ2 k k') {a b : K} (h : n6 κ a b = true) : gd ρ1 ρ2 a b := by
 unfold n6 at h
 split at h
 ·rename_i c hc
  rw [← (K.beq_iff _ _).1 h]; exact hk _ _ hc
 ·cases h
theorem nd {f : AV → AV → Bool} (hf : ∀ a b x, f a b = true → VRel ρ1 a x → VRel ρ2 b x) : ∀ {l m : List AV} {xs : List Value}, leAV.leL f l m = true → VRels ρ1 l xs → VRels ρ2 m xs
 | [], [], _, _, h => by simp only [VRels] at h ⊢; exact h
 | [], _ :: _, _, h, _ => by cases h
 | _ :: _, [], _, h, _ => by cases h
 | a :: l, b :: m, _, h, hx => by
   simp only [leAV.leL] at h
   obtain ⟨h1, h2⟩ := bcT.1 h
   simp only [VRels] at hx ⊢
   obtain ⟨v, vs, e, q1, q2⟩ := hx
   exact ⟨v, vs, e, hf _ _ _ h1 q1, nd hf h2 q2⟩
theorem a45 (hk : ∀ k k', κ k = some k' → gd ρ1 ρ2 k k') {f g f' : Fn} (h : fnR κ f g = true) (q : FnRel ρ1 f f') : FnRel ρ2 g f' := by
 unfold fnR at h
 split at h
 ·obtain ⟨c, q1, q2⟩ := q
  exact ⟨c, (dq hk h c q1).1, q2⟩
 ·cases h
 ·cases h
 ·rename_i n1 n2
  have e := anq h
  subst e
  have hy : ∀ n, f ≠ .yield n := fun n e => n1 n e
  rw [FnRel.plain hy q]
  exact FnRel.refl hy
theorem n8 (hE : E.all Gv.σ) (hk : ∀ k k', κ k = some k' → gd ρ1 ρ2 k k') : ∀ n a b x, leR κ E n a b = true → VRel ρ1 a x → VRel ρ2 b x
 | 0, _, _, _, h, _ => by cases h
 | n + 1, a, b, x, h, hx => by
   have ih := n8 hE hk n
   unfold leR at h
   split at h
   ·simp only [VRel]
   ·obtain ⟨h1, h2⟩ := bcT.1 h
    have h2 := zW h2
    subst h2
    simp only [VRel] at hx ⊢
    obtain ⟨c, q1, q2⟩ := hx
    exact ⟨c, (dq hk h1 c q1).1, q2⟩
   ·simp only [zU] at h
    obtain ⟨⟨⟨h1, h2⟩, h3⟩, h4⟩ := h
    have h2 := zW h2
    have h3 := zW h3
    have h4 := zW h4
    subst h2 h3 h4
    simp only [VRel] at hx ⊢
    obtain ⟨c, cap', q1, q2, q3, q4⟩ := hx
    exact ⟨c, cap', (dq hk h1 c q1).1, q2, a3m (dq hk h1 c q1).2 q3, q4⟩
   ·simp only [zU] at h
    obtain ⟨⟨⟨⟨h1, h2⟩, h3⟩, h4⟩, h5⟩ := h
    have h2 := zW h2
    have h3 := zW h3
    have h4 := zW h4
    have h5 := zW h5
    subst h2 h3 h4 h5
    simp only [VRel] at hx ⊢
    obtain ⟨c, cap', q1, q2, q3, q4⟩ := hx
    exact ⟨c, cap', (dq hk h1 c q1).1, q2, a3m (dq hk h1 c q1).2 q3, q4⟩
   ·rename_i b' es' m A
    simp only [zU] at h
    obtain ⟨⟨⟨⟨h1, h2⟩, h3⟩, h4⟩, h5⟩ := h
    have h2 := zW h2
    have h3 := zW h3
    have h4 := gy hE h4
    have h5 := ii h5
    subst h2 h3 h5
    simp only [VRel] at hx ⊢
    obtain ⟨c, cap', q1, ⟨q2, q3⟩, q4, q5⟩ := hx
    simp only [SlOk] at q4
    simp only [SE.eval] at h4
    have hsz := (dq hk h1 c q1).2
    refine ⟨SAll.nil, c, cap', (dq hk h1 c q1).1, ?_, ?_, ?_, ?_⟩
    ·rw [← h4]; exact Int.natCast_nonneg _
    ·rw [← h4]; simp; omega
    ·rw [hsz]; omega
    ·rw [q5, ← h4]; simp
   ·simp only [VRel] at hx ⊢
    obtain ⟨c, q1, q2⟩ := hx
    exact ⟨c, (dq hk h c q1).1, q2⟩
   ·obtain ⟨h1, h2⟩ := bcT.1 h
    obtain ⟨h2, h3⟩ := bcT.1 h2
    rename_i f x y g x' y'
    simp only [VRel] at hx ⊢
    obtain ⟨f', xs, ys, q1, q0, q2, q3⟩ := hx
    exact ⟨f', xs, ys, q1, a45 hk h1 q0, nd ih h2 q2, nd ih h3 q3⟩
   ·obtain ⟨h1, h2⟩ := bcT.1 h
    have h1 := zW h1
    subst h1
    simp only [VRel] at hx ⊢
    obtain ⟨v, e, q⟩ := hx
    exact ⟨v, e, ih _ _ _ h2 q⟩
   ·simp only [VRel] at hx ⊢; obtain ⟨ys, e, q⟩ := hx; exact ⟨ys, e, nd ih h q⟩
   ·simp only [VRel] at hx ⊢; obtain ⟨ys, e, q⟩ := hx; exact ⟨ys, e, nd ih h q⟩
   ·simp only [zU] at h
    obtain ⟨⟨h1, h2⟩, h3⟩ := h
    have h1 := (cq _ _).1 h1
    have h2 := gy hE h2
    have h3 := ii h3
    subst h1 h3
    simp only [VRel] at hx ⊢
    exact ⟨SAll.nil, by rw [hx.2, h2]⟩
   ·simp only [zU] at h
    obtain ⟨⟨h1, h2⟩, h3⟩ := h
    have h1 := (cq _ _).1 h1
    have h2 := gy hE h2
    have h3 := ii h3
    subst h1 h3
    simp only [SE.eval] at h2
    simp only [VRel] at hx ⊢
    exact ⟨SAll.nil, by rw [hx, h2]⟩
   ·simp only [zU] at h
    obtain ⟨h1, h2⟩ := h
    have h1 := mz hE h1
    have h2 := ii h2
    subst h2
    simp only [VRel, GVRel] at hx ⊢
    exact ⟨SAll.nil, by rw [← h1]; exact hx.2⟩
   ·simp only [zU] at h
    obtain ⟨⟨h0, h1⟩, h2⟩ := h
    have h1 := mz hE h1
    have h2 := ii h2
    subst h2
    simp only [GE.eval] at h1
    simp only [VRel, GVRel] at hx ⊢
    refine ⟨SAll.nil, ?_, ?_⟩
    ·rw [← h1, kf]; exact hx.2
    ·rw [← h1]; exact jv _
   ·simp only [zU] at h
    obtain ⟨⟨⟨h1, h2⟩, h3⟩, h4⟩ := h
    have h2 := zW h2
    have h3 := gy hE h3
    have h4 := ii h4
    subst h2 h4
    simp only [VRel, GVRel] at hx ⊢
    obtain ⟨_, c, cap', q1, q2, q3, q4, q5⟩ := hx
    exact ⟨SAll.nil, c, cap', (dq hk h1 c q1).1, by rw [← h3]; exact q2, by rw [← h3]; exact q3, by rw [(dq hk h1 c q1).2]; exact q4, by rw [← h3]; exact q5⟩
   ·simp only [zU] at h
    obtain ⟨⟨⟨⟨h1, h2⟩, h3⟩, h5⟩, h4⟩ := h
    have h2 := zW h2
    have h5 := zW h5
    have h3 := gy hE h3
    have h4 := ii h4
    subst h2 h4 h5
    simp only [VRel, GVRel] at hx ⊢
    obtain ⟨_, c, q1, q2, q3⟩ := hx
    exact ⟨SAll.nil, c, (dq hk h1 c q1).1, by rw [← h3]; exact q2, by rw [← h3]; exact q3⟩
   ·simp only [zU] at h
    obtain ⟨⟨⟨h1, h2⟩, h3⟩, h4⟩ := h
    have h2 := gy hE h2
    have h3 := gy hE h3
    have h4 := ii h4
    subst h4
    simp only [VRel, GVRel] at hx ⊢
    obtain ⟨_, c, cap', q1, q2, q3, q5⟩ := hx
    exact ⟨SAll.nil, c, cap', (dq hk h1 c q1).1, by rw [← h3]; exact q2, by rw [← h3]; exact q3, by rw [← h3, ← h2]; exact q5⟩
   ·simp only [zU] at h
    obtain ⟨⟨⟨h1, h2⟩, h3⟩, h4⟩ := h
    have h2 := gy hE h2
    have h3 := gy hE h3
    have h4 := ii h4
    subst h4
    simp only [VRel, GVRel] at hx ⊢
    obtain ⟨_, c, q1, q2, q3⟩ := hx
    exact ⟨SAll.nil, c, (dq hk h1 c q1).1, by rw [← h3]; exact q2, by rw [← h3, ← h2]; exact q3⟩
   ·obtain ⟨h1, h2⟩ := bcT.1 h
    rw [← ajy _ _ h2]
    exact ash h1 hx
theorem act {f : AV → AV → Bool} (hf : ∀ a b x, f a b = true → VRel ρ1 a x → VRel ρ2 b x) : ∀ {l m : List (AV × AV)} {ms : List MapEntry}, ag6 f l m = true → ERel ρ1 l ms → ERel ρ2 m ms
 | [], [], _, _, h => h
 | [], _ :: _, _, h, _ => by cases h
 | _ :: _, [], _, h, _ => by cases h
 | a :: l, b :: m, _, h, ⟨x, xs, q1, q2, q3, q4⟩ => by
   simp only [ag6] at h
   obtain ⟨h1, h2⟩ := bcT.1 h
   obtain ⟨h2, h3⟩ := bcT.1 h2
   exact ⟨x, xs, q1, hf _ _ _ h1 q2, hf _ _ _ h2 q3, act hf h3 q4⟩
theorem a31 {t : TypeId} {ks : List IntKind} {n n' : SE} {g g' : GE} {y : Option Obj} (h1 : n'.eval Gv.σ = n.eval Gv.σ) (h2 : g'.eval Gv.σ = g.eval Gv.σ) (h : GORel (.gh t ks n' g') y) : GORel (.gh t ks n g) y := by
 simp only [GORel] at h ⊢
 rw [h1] at h
 revert h
 generalize hx : GE.eval Gv.σ g' = x
 rw [h2] at hx
 subst hx
 exact id
theorem aiq (hE : E.all Gv.σ) (hk : ∀ k k', κ k = some k' → gd ρ1 ρ2 k k') {arr : Array Value} {e : SE} {t : TypeId} {k : K} : ∀ {ps' : List GP}, GPs ρ1 arr ps' → anu κ E e t k ps' = true → 0 ≤ e.eval Gv.σ ∧ ∃ c, ρ2 k = some c ∧ arr[(e.eval Gv.σ).toNat]? = some (.iface t (.pointer (some ⟨c, 0, none⟩)))
 | [], _, h => by cases h
 | .mk e' t' k' :: l, hp, h => by
   simp only [anu, aa] at h
   split at h
   ·rename_i q
    simp only [zU] at q
    obtain ⟨⟨q1, q2⟩, q3⟩ := q
    have q1 := gy hE q1
    have q2 := zW q2
    subst q2
    obtain ⟨h0, c, h1, h2⟩ := hp _ _ _ (List.mem_cons_self ..)
    rw [q1] at h0 h2
    exact ⟨h0, c, (dq hk q3 c h1).1, h2⟩
   ·exact aiq hE hk (fun e t k hm => hp e t k (zA _ hm)) h
theorem ab6 (hE : E.all Gv.σ) (hk : ∀ k k', κ k = some k' → gd ρ1 ρ2 k k') {arr : Array Value} {ps' : List GP} (hp : GPs ρ1 arr ps') : ∀ {ps : List GP}, agh κ E ps' ps = true → GPs ρ2 arr ps
 | [], _, _, _, _, hm => by cases hm
 | .mk e' t' k' :: ps, h, e, t, k, hm => by
   simp only [agh] at h
   obtain ⟨h1, h2⟩ := bcT.1 h
   rcases List.mem_cons.1 hm with q | q
   ·injection q with q1 q2 q3
    subst q1 q2 q3
    exact aiq hE hk hp h1
   ·exact ab6 hE hk hp h2 e t k q
theorem a29 (hE : E.all Gv.σ) (hk : ∀ k k', κ k = some k' → gd ρ1 ρ2 k k') {o : LO} {x : AObj} (h : loR κ E o x = true) : x ≠ .none ∧ x.isRo = (dh o).isRo ∧ ∀ y, ORel ρ1 x y → ORel ρ2 (dh o) y := by
 unfold loR at h
 split at h
 ·rename_i ro t n g ps ro' t' n' g' ps'
  simp only [zU] at h
  obtain ⟨⟨⟨⟨h1, h2⟩, h3⟩, h4⟩, h5⟩ := h
  have h1 := vt h1
  have h2 := zW h2
  have h3 := gy hE h3
  have h4 := mz hE h4
  subst h1 h2
  refine ⟨by simp, rfl, fun y hy => ?_⟩
  obtain ⟨arr, fz, e1, e2, e3, e4, e5, e6, e7⟩ := hy
  rw [h3] at e3 e4 e5
  revert e4 e6
  generalize hX : GE.eval Gv.σ g' = X
  rw [h4] at hX
  subst hX
  intro e4 e6
  exact ⟨arr, fz, e1, e2, e3, e4, e5, e6, ab6 hE hk e7 h5⟩
 ·rename_i fn nt id l ps kd fn' nt' τ ps' x y kd'
  simp only [zU] at h
  obtain ⟨⟨⟨⟨⟨⟨⟨h1, h2⟩, h3⟩, h4⟩, h5⟩, h6⟩, h7⟩, h8⟩ := h
  have h1 := zW h1
  have h2 := zW h2
  have h3 := yr h3
  have h5 := zW h5
  have h7 := zW h7
  subst h1 h2 h3
  rw [ao] at h7
  refine ⟨by simp, rfl, fun y0 hy => ?_⟩
  obtain ⟨tmps, c, e1, e2, e3, e4, e5, g, e6⟩ := hy
  obtain ⟨r1, r2⟩ := ac0 h6 e6 h5
  subst r1 r2
  have hs := pn e5 nt 0 (by omega)
  rw [List.drop_zero] at hs
  exact ⟨tmps, c, e1, (dq hk h4 c e2).1, e3, e4, (mp (by omega) (by omega)).2 (nd (n8 hE hk 8) h8 hs), g, e6⟩
 ·rename_i t e fl fh l t' s e' fl' fh' c
  simp only [zU] at h
  obtain ⟨⟨⟨⟨⟨⟨h1, h2⟩, h3⟩, h4⟩, h5⟩, h6⟩, h7⟩ := h
  refine ⟨by simp, rfl, fun y hy => ?_⟩
  obtain ⟨arr, fz, e1, e2, e3, e4, e5, e6⟩ := hy
  have h1 := zW h1
  have h2 := vt h2
  have h3 := zW h3
  have h4 := zW h4
  have h5 := zW h5
  have h6 := zE h6
  subst h1 h2 h3 h4
  obtain ⟨g1, g2⟩ := ags h7
  rw [ao] at h5
  have hcap := f8 l.length (by omega)
  refine ⟨arr, fz, e1, by rw [ao]; omega, fun q => by rw [ao, ← h5]; exact e3 q, by rw [ao, cx]; exact hcap, e5, ?_⟩
  intro i hi
  rw [ao] at hi
  obtain ⟨v, q1, q2⟩ := e6 i (by omega)
  refine ⟨v, q1, ?_⟩
  rw [ao, gc l 0 _ i (by omega) (by omega), dif_pos ⟨Nat.zero_le _, by omega⟩]
  have hil : i < (ki c s 0).length := by rw [g1]; omega
  have := g2 i hil (by omega)
  refine n8 hE hk 8 _ _ _ this ?_
  simpa [rn] using q2
 ·rename_i es es'
  refine ⟨by simp, rfl, fun y hy => ?_⟩
  obtain ⟨a, b, h1, h2⟩ := hy
  exact ⟨a, b, h1, act (n8 hE hk 8) h h2⟩
 ·rename_i t ks n g t' ks' n' g'
  simp only [zU] at h
  obtain ⟨⟨⟨h1, h2⟩, h3⟩, h4⟩ := h
  have h1 := zW h1
  have h2 := agr h2
  subst h1 h2
  exact ⟨by simp, rfl, fun y hy => a31 (gy hE h3) (mz hE h4) hy⟩
 ·rename_i m m'
  refine ⟨by simp, rfl, fun y hy => ?_⟩
  show GORel (.gmap m) y
  have hy : GORel (.gmap m') y := hy
  simp only [GORel] at hy ⊢
  rw [← mz hE h]; exact hy
 ·rename_i g p A g' p' A'
  simp only [zU] at h
  obtain ⟨⟨h1, h2⟩, h3⟩ := h
  have h3 := ii h3
  subst h3
  refine ⟨by simp, rfl, fun y hy => ?_⟩
  show GORel (.iter g p []) y
  have hy : GORel (.iter g' p' A') y := hy
  simp only [GORel] at hy ⊢
  rw [← mz hE h1, ← gy hE h2]; exact ⟨SAll.nil, hy.2⟩
 ·rename_i t t' ks n g
  have h := zW h
  subst h
  refine ⟨by simp, rfl, fun y hy => ?_⟩
  show GORel (.junk t) y
  have hy : GORel (.gh t ks n g) y := hy
  simp only [GORel] at hy ⊢
  obtain ⟨arr, fz, h1, h2, _⟩ := hy
  exact ⟨arr, fz, h1, h2⟩
 ·exact ⟨by simp, rfl, fun y hy => hy⟩
 ·rename_i o n g o' n' g'
  simp only [zU] at h
  obtain ⟨⟨h1, h2⟩, h3⟩ := h
  have h1 := gy hE h1
  have h2 := gy hE h2
  have h3 := mz hE h3
  refine ⟨by simp, rfl, fun y hy => ?_⟩
  show GORel (.rh o n g) y
  have hy : GORel (.rh o' n' g') y := hy
  simp only [GORel] at hy ⊢
  rw [h1, h2] at hy
  revert hy
  generalize hx : GE.eval Gv.σ g' = x
  rw [h3] at hx
  subst hx
  exact id
 ·rename_i o n g o' n' g'
  simp only [zU] at h
  obtain ⟨⟨h1, h2⟩, h3⟩ := h
  have h1 := gy hE h1
  have h2 := gy hE h2
  have h3 := mz hE h3
  refine ⟨by simp, rfl, fun y hy => ?_⟩
  show GORel (.rb o n g) y
  have hy : GORel (.rb o' n' g') y := hy
  simp only [GORel] at hy ⊢
  rw [h1, h2] at hy
  revert hy
  generalize hx : GE.eval Gv.σ g' = x
  rw [h3] at hx
  subst hx
  exact id
 ·rename_i t ks n g t' s e fl fh c
  rw [aa] at h
  split at h
  ·rename_i h0
   obtain ⟨h1, h2, h3⟩ := se (A0 := []) SAll.nil h0
   exact ⟨h1, h2, fun y hy => h3 ρ1 y hy⟩
  ·simp only [zU] at h
   obtain ⟨⟨h0, q1⟩, q2⟩ := h
   obtain ⟨h1, h2, h3⟩ := se (A0 := []) SAll.nil h0
   exact ⟨h1, rfl, fun y hy => a31 (gy hE q1) (mz hE q2) (h3 ρ1 y hy)⟩
 ·rename_i m es
  split at h <;> try (cases h; done)
  rename_i g hg
  rw [zU] at h
  obtain ⟨h0, q1⟩ := h
  obtain ⟨h1, h2, h3⟩ := se (A0 := []) SAll.nil h0
  refine ⟨h1, h2, fun y hy => ?_⟩
  have q := h3 ρ1 y hy
  show GORel (.gmap m) y
  have q : GORel (.gmap g) y := q
  simp only [GORel] at q ⊢
  rw [← mz hE q1]; exact q
 ·obtain ⟨h1, h2, h3⟩ := se (A0 := []) SAll.nil h
  exact ⟨h1, h2, fun y hy => h3 ρ1 y hy⟩
 ·cases h
theorem a5h (hE : E.all Gv.σ) {o : LO} {x : AObj} {kd : Nat} {g : GE} (h : loR κ E o x = true) (ho : ay (dh o) = some (kd, g)) : ∃ g', ay x = some (kd, g') ∧ g.eval Gv.σ = g'.eval Gv.σ := by
 cases o with
 | gob o =>
   cases o <;> first | (cases ho; done) | skip
   injection ho with ho
   injection ho with e1 e2
   subst e1 e2
   cases x <;> first | (cases h; done) | skip
   rename_i o'
   cases o' <;> first | (cases h; done) | skip
   rename_i k' g'
   have h : (Nat.beq _ k' && eqG E g' _) = true := h
   rw [zU] at h
   have := zW h.1
   subst this
   exact ⟨_, rfl, (mz hE h.2).symm⟩
 | _ => cases ho
theorem ahd {Lo : List HO} {T0 : List (Nat × Nat)} {nxi nxo : Nat} : ∀ {T : List (Nat × Nat)}, tabOk Lo T0 nxi nxo T = true → ∀ s t, (s, t) ∈ T → (256 ≤ s ∧ (nxi ≤ s ∨ qx s Lo = false)) ∧ s < 65536 ∧ nxi ≤ t ∧ t < nxo ∧ ez T0 s = some t ∧ ez (adj T0) t = some s
 | [], _, _, _, h => by cases h
 | p :: l, h, s, t, hm => by
   simp only [tabOk] at h
   obtain ⟨h1, h2⟩ := bcT.1 h
   rcases List.mem_cons.1 hm with e | e
   ·subst e
    simp only [zU] at h1
    obtain ⟨⟨⟨⟨⟨⟨q0, q1⟩, q2⟩, q3⟩, q4⟩, q5⟩, q6⟩ := h1
    rw [Bool.or_eq_true] at q1
    have opt : ∀ {o : Option Nat} {b : Nat}, tabOk.optIs o b = true → o = some b := by
     intro o b h
     cases o with
     | none => cases h
     | some a => rw [zW h]
    exact ⟨⟨zE q0, q1.imp zE (fun h => by cases hk : qx s Lo <;> simp_all [xv])⟩, zE q2, zE q3, zE q4, opt q5, opt q6⟩
   ·exact ahd h2 s t e
theorem ye : ∀ {L : List (Nat × Nat)} {k m : Nat}, ez L k = some m → (k, m) ∈ L
 | [], _, _, h => by cases h
 | p :: l, k, m, h => by
   simp only [ez, aa] at h
   split at h
   ·rename_i h1
    injection h with h
    rw [← zW h1, ← h]
    exact List.mem_cons_self ..
   ·exact zA _ (ye h)
theorem aj8 : ∀ {L : List (Nat × Nat)} {k m : Nat}, (k, m) ∈ adj L → (m, k) ∈ L
 | [], _, _, h => by cases h
 | p :: l, k, m, h => by
   simp only [adj] at h
   rcases List.mem_cons.1 h with e | e
   ·injection e with e1 e2
    subst e1 e2
    exact List.mem_cons_self ..
   ·exact zA _ (aj8 e)
theorem tk {T : List (Nat × Nat)} {E : EqL} {nxi : Nat} {w : W} : ∀ {L : List HO}, ait T E nxi w L = true → ∀ n o, HO.mk n o ∈ L → ∃ s, im T nxi n = some s ∧ s < 65536 ∧ n < 65536 ∧ loR (sq T nxi) E o (bz (K.of s) w) = true
 | [], _, _, _, h => by cases h
 | .mk k p :: L, h, n, o, hm => by
   simp only [ait] at h
   obtain ⟨h1, h2⟩ := bcT.1 h
   rcases List.mem_cons.1 hm with e | e
   ·injection e with e1 e2
    subst e1 e2
    split at h1
    ·rename_i s hs
     obtain ⟨h3, h4⟩ := bcT.1 h1
     simp only [zU] at h3
     exact ⟨s, hs, zE h3.1, zE h3.2, h4⟩
    ·cases h1
   ·exact tk h2 n o e
noncomputable def ol (ρ1 : Env) (T : List (Nat × Nat)) (nxi : Nat) : Env where
 blk k := match im T nxi k.num with
  | some s => ρ1 (K.of s)
  | none => none
 sz k := match im T nxi k.num with
  | some s => ρ1.sz (K.of s)
  | none => 0
 ft k := match im T nxi k.num with
  | some s => ρ1.ft (K.of s)
  | none => fun _ => False
theorem a3i {ρ : Env} {a a1 : W} {w w1 : World} {T : List (Nat × Nat)} {nxi nxo : Nat} {Lo : List HO} (hc : Clean ρ a) (hnx : a.nx.num = nxi) (hE : E.all Gv.σ) (b1 : 256 ≤ nxi) (b2 : nxi ≤ nxo) (b3 : nxo ≤ 65535)
  (hT : tabOk Lo T nxi nxo T = true) (hl : nc laidL a1 = true) (hh : ait T E nxi a1 Lo = true) (hA : Adv ρ a w ρ1 a1 w1) :
  ∃ ρ2, Adv ρ a w ρ2 (bf Lo nxo) w1 ∧ ∀ k k', sq T nxi k = some k' → gd ρ1 ρ2 k k' := by
 have n3 : (bf Lo nxo).nx.num = nxo := cr (by omega)
 have src_low : ∀ {k : Nat}, k < nxi → im T nxi k = some k := by
  intro k h
  simp only [im, aa]
  rw [if_pos (show Nat.blt k nxi = true from Nat.ble_eq_true_of_le h)]
 have src_high : ∀ {k : Nat}, nxi ≤ k → im T nxi k = ez (adj T) k := by
  intro k h
  simp only [im, aa]
  rw [if_neg (by simp [Nat.blt]; omega)]
 have src_tab : ∀ {k s : Nat}, nxi ≤ k → im T nxi k = some s → (256 ≤ s ∧ (nxi ≤ s ∨ qx s Lo = false)) ∧ s < 65536 ∧ k < nxo ∧ ez T s = some k := by
  intro k s h e
  rw [src_high h] at e
  obtain ⟨q1, q2, q3, q4, q5, q6⟩ := ahd hT s k (aj8 (ye e))
  exact ⟨q1, q2, q4, q5⟩
 have here : ∀ k : K, ac k (ae Lo) ≠ .none → k.num ≤ 255 ∨ qx k.num Lo = true := by
  intro k hk
  rcases gm k Lo hk with ⟨n, o, q1, q2, q3⟩ | ⟨g, cs, q1, q2, q3⟩
  ·obtain ⟨s, s1, s2, s3, s4⟩ := tk hh n o q1
   subst q2
   rw [cr s3]
   exact .inr (keyIn_iff.2 ⟨o, q1⟩)
  ·subst q2
   obtain ⟨f1, f2, f3⟩ := gg _ fo g cs q1
   rw [cr (by omega)]
   exact .inl f1
 have src_inj : ∀ {k l s : Nat}, (k ≤ 255 ∨ qx k Lo = true) → (l ≤ 255 ∨ qx l Lo = true) → im T nxi k = some s → im T nxi l = some s → k = l := by
  intro k l s hik hil h1 h2
  by_cases hk : k < nxi <;> by_cases hl : l < nxi
  ·rw [src_low hk] at h1; rw [src_low hl] at h2
   injection h1 with h1; injection h2 with h2; omega
  ·rw [src_low hk] at h1; injection h1 with h1
   subst h1
   obtain ⟨⟨z1, z2⟩, _⟩ := src_tab (by omega) h2
   rcases z2 with z2 | z2
   ·omega
   ·rcases hik with z | z
    ·omega
    ·rw [z] at z2; cases z2
  ·rw [src_low hl] at h2; injection h2 with h2
   subst h2
   obtain ⟨⟨z1, z2⟩, _⟩ := src_tab (by omega) h1
   rcases z2 with z2 | z2
   ·omega
   ·rcases hil with z | z
    ·omega
    ·rw [z] at z2; cases z2
  ·have := (src_tab (by omega) h1).2.2.2
   rw [(src_tab (by omega) h2).2.2.2] at this
   injection this with this; exact this.symm
 have blk : ∀ {k : K} {s : Nat}, im T nxi k.num = some s → (ol ρ1 T nxi) k = ρ1 (K.of s) ∧ (ol ρ1 T nxi).sz k = ρ1.sz (K.of s) := by
  intro k s h
  constructor
  ·show (match im T nxi k.num with | some s => ρ1 (K.of s) | none => none) = _
   rw [h]
  ·show (match im T nxi k.num with | some s => ρ1.sz (K.of s) | none => 0) = _
   rw [h]
 have blk0 : ∀ {k : K}, im T nxi k.num = none → (ol ρ1 T nxi) k = none := by
  intro k h
  show (match im T nxi k.num with | some s => ρ1 (K.of s) | none => none) = _
  rw [h]
 have low : ∀ {k : K}, k.num < nxi → (ol ρ1 T nxi) k = ρ1 k ∧ (ol ρ1 T nxi).sz k = ρ1.sz k := by
  intro k h
  have := blk (src_low h)
  rw [ag4] at this
  exact this
 have hkey : ∀ k k', sq T nxi k = some k' → gd ρ1 (ol ρ1 T nxi) k k' := by
  intro k k' h
  unfold sq at h
  split at h
  ·rename_i m hm
   injection h with h
   subst h
   obtain ⟨q1, q2, q3, q4, q5, q6⟩ := ahd hT _ _ (ye hm)
   have e : (K.of m).num = m := cr (by omega)
   have := blk (k := K.of m) (s := k.num) (by rw [e, src_high q3]; exact q6)
   rw [ag4] at this
   exact fun c hc => ⟨by rw [this.1]; exact hc, this.2⟩
  ·rw [aa] at h
   split at h
   ·rename_i h1
    injection h with h
    subst h
    have := low (k := k) (zE h1)
    exact fun c hc => ⟨by rw [this.1]; exact hc, this.2⟩
   ·cases h
 refine ⟨ol ρ1 T nxi, ?_, hkey⟩
 have at_src : ∀ k, ac k (ae Lo) ≠ .none → ∃ s, im T nxi k.num = some s ∧ ac (K.of s) a1.h ≠ .none ∧ (ac k (ae Lo)).isRo = (ac (K.of s) a1.h).isRo ∧ ∀ y, ORel ρ1 (ac (K.of s) a1.h) y → ORel (ol ρ1 T nxi) (ac k (ae Lo)) y := by
  intro k hk
  rcases gm k Lo hk with ⟨n, o, q1, q2, q3⟩ | ⟨g, cs, q1, q2, q3⟩
  ·obtain ⟨s, s1, s2, s3, s4⟩ := tk hh n o q1
   subst q2
   rw [ar] at s4
   obtain ⟨r1, r2, r3⟩ := a29 hE hkey s4
   rw [cr s3, q3]
   exact ⟨s, s1, r1, by rw [r2], r3⟩
  ·subst q2
   obtain ⟨f1, f2, f3⟩ := gg _ fo g cs q1
   obtain ⟨n, c, r1⟩ := u9 hl g cs q1
   rw [ar] at r1
   have eg : (K.of g).num = g := cr (by omega)
   refine ⟨g, by rw [eg]; exact src_low (by omega), by rw [r1]; simp, by rw [q3, r1]; rfl, fun y hy => ?_⟩
   rw [r1] at hy
   rw [q3]
   obtain ⟨arr, t', fz, e1, e2, e3, e4, e5⟩ := hy
   have hv := e5 g cs rfl q1
   have hlen := VRels.length _ _ (hv ρ1)
   rw [ao]
   refine ⟨arr, t', fz, e1, by simpa using hlen, by rw [cx]; exact f8 _ f3, fun i hi => ?_, e5⟩
   obtain ⟨v, s1, s2⟩ := ot (hv (ol ρ1 T nxi)) f3 i hi
   exact ⟨v, by simpa using s1, s2⟩
 have src_lt : ∀ {k : K} {s : Nat}, im T nxi k.num = some s → s < 65536 := by
  intro k s h
  by_cases hk : k.num < nxi
  ·rw [src_low hk] at h; injection h with h; omega
  ·exact (src_tab (by omega) h).2.1
 have ftS : ∀ {k : K} {s : Nat}, im T nxi k.num = some s → (ol ρ1 T nxi).ft k = ρ1.ft (K.of s) := by
  intro k s h
  show (match im T nxi k.num with | some s => ρ1.ft (K.of s) | none => fun _ => False) = _
  rw [h]
 have ghS : ∀ k, ay (ac k (ae Lo)) ≠ none → ∃ s kd g g', im T nxi k.num = some s ∧ ay (ac k (ae Lo)) = some (kd, g) ∧ ay (ac (K.of s) a1.h) = some (kd, g') ∧ g.eval Gv.σ = g'.eval Gv.σ := by
  intro k hk
  rcases gm k Lo (be hk) with ⟨n, o, q1, q2, q3⟩ | ⟨g, cs, q1, q2, q3⟩
  ·obtain ⟨s, s1, s2, s3, s4⟩ := tk hh n o q1
   subst q2
   rw [ar] at s4
   rw [q3] at hk ⊢
   obtain ⟨⟨kd, g⟩, hg⟩ := Option.ne_none_iff_exists'.1 hk
   obtain ⟨g', h1, h2⟩ := a5h hE s4 hg
   exact ⟨s, kd, g, g', by rw [cr s3]; exact s1, hg, h1, h2⟩
  ·rw [q3] at hk; exact absurd rfl hk
 refine ⟨⟨?_, ?_, ?_, ?_⟩, ?_, ?_, ?_, hA.size, ?_, ?_, hA.frame, ?_, hA.os, hA.tape, hA.output⟩
 ·intro k l hk hl' e
  obtain ⟨s, s1, s2, s3, s4⟩ := at_src k hk
  obtain ⟨t, t1, t2, t3, t4⟩ := at_src l hl'
  rw [(blk s1).1, (blk t1).1] at e
  rcases hA.rel.inj _ _ s2 t2 e with q | ⟨q, r⟩
  ·have := congrArg K.num q
   rw [cr (src_lt s1), cr (src_lt t1)] at this
   subst this
   exact .inl (K.num_inj (src_inj (here k hk) (here l hl') s1 t1))
  ·exact .inr ⟨s3.trans q, t3.trans r⟩
 ·intro k hk
  obtain ⟨s, s1, s2, s3, s4⟩ := at_src k hk
  obtain ⟨c, h1, h2⟩ := hA.rel.dom _ s2
  exact ⟨c, by rw [(blk s1).1]; exact h1, s4 _ h2⟩
 ·intro k c arr t fz hk hc' hx
  obtain ⟨s, s1, s2, s3, s4⟩ := at_src k hk
  rw [(blk s1).1] at hc'
  rw [(blk s1).2]
  exact hA.rel.len _ c arr t fz s2 hc' hx
 ·intro k kd g hk
  have hk : ay (ac k (ae Lo)) = some (kd, g) := hk
  obtain ⟨s, kd', g1, g', s1, e1, e2, e3⟩ := ghS k (n9 hk)
  rw [hk] at e1
  injection e1 with e1
  injection e1 with e1 e1'
  subst e1 e1'
  have q := hA.rel.gho (K.of s) kd g' e2
  have hk0 := here k (be (n9 hk))
  refine ⟨?_, ?_, ?_, ?_, ?_⟩
  ·intro c hcc; rw [(blk s1).1] at hcc; rw [ftS s1]; exact q.root c hcc
  ·intro c hcc; rw [(blk s1).1] at hcc; rw [ftS s1, e3]; exact q.rel c hcc
  ·rw [ftS s1]; exact q.lt
  ·intro l hl' hlk c hcc
   obtain ⟨t, t1, t2, t3, t4⟩ := at_src l hl'
   rw [(blk t1).1] at hcc
   rw [ftS s1]
   refine q.sep (K.of t) t2 (fun e => hlk ?_) c hcc
   have := congrArg K.num e
   rw [cr (src_lt t1), cr (src_lt s1)] at this
   subst this
   exact K.num_inj (src_inj (here l hl') hk0 t1 s1)
  ·intro l hl' hlk c hcf
   have hl' : ay (ac l (ae Lo)) ≠ none := hl'
   obtain ⟨t, _, _, g2, t1, _, f2, _⟩ := ghS l hl'
   rw [ftS t1] at hcf
   rw [ftS s1]
   refine q.dis (K.of t) (by rw [f2]; simp) (fun e => hlk ?_) c hcf
   have := congrArg K.num e
   rw [cr (src_lt t1), cr (src_lt s1)] at this
   subst this
   exact K.num_inj (src_inj (here l (be hl')) hk0 t1 s1)
 ·intro k c hk
  have hlt : k.num < nxi := by
   apply Classical.byContradiction
   intro hn
   rw [hc k (by omega)] at hk
   cases hk
  rw [(low hlt).1, (low hlt).2]
  exact hA.le k c hk
 ·intro k
  by_cases hlt : k.num < nxi
  ·rw [(low hlt).1]
   rcases hA.rng k with e | e
   ·exact .inl e
   ·omega
  ·cases hs : im T nxi k.num with
   | none => exact .inl (by rw [blk0 hs, hc k (by omega)])
   | some s => exact .inr ⟨by omega, by rw [n3]; exact (src_tab (by omega) hs).2.2.1⟩
 ·rw [n3]; omega
 ·rintro c ⟨k, hk, hr, hkc⟩
  obtain ⟨s, s1, s2, s3, s4⟩ := at_src k hk
  refine hA.own c ⟨_, s2, by rw [← s3]; exact hr, ?_⟩
  rcases hkc with hkc | ⟨h1, h2⟩
  ·rw [(blk s1).1] at hkc; exact .inl hkc
  ·obtain ⟨t, _, _, g2, t1, _, f2, _⟩ := ghS k h1
   rw [s1] at t1
   injection t1 with t1
   subst t1
   rw [ftS s1] at h2
   exact .inr ⟨by rw [f2]; simp, h2⟩
 ·intro k c hk hkc
  obtain ⟨s, s1, s2, s3, s4⟩ := at_src k hk
  rw [(blk s1).1] at hkc
  exact hA.keep _ c s2 hkc
 ·intro k hk hl
  rw [hnx] at hk
  have q := hA.fts k (by rw [hnx]; exact hk) hl
  have e := src_low hk
  refine ⟨by rw [ftS e, ag4]; exact q.1, ?_⟩
  by_cases hg : ay (ac k (ae Lo)) = none
  ·exact hg
  ·obtain ⟨t, _, _, g2, t1, _, f2, _⟩ := ghS k hg
   rw [e] at t1
   injection t1 with t1
   subst t1
   rw [ag4, q.2] at f2
   cases f2
end
end Go.Ev
set_option maxRecDepth 100000
set_option linter.all false
namespace Go.Ev
noncomputable section
def ci : Code → List Code
 | .seq a b => ci a ++ ci b
 | .cond _ a b => ci a ++ ci b
 | .block _ a => ci a
 | .loop b => b :: ci b
 | _ => []
def si (k : Nat) : List Code → List Code
 | [] => []
 | c :: l => bc (Nat.beq (ko c) k) (c :: si k l) (si k l)
def a5m : List Code → Option Code
 | [c] => some c
 | _ => none
def yp (f k : Nat) : Option Code := match pz f with
 | some b => a5m (si k (ci b.2))
 | none => none
def akx (f k : Nat) : Code := match yp f k with
 | some b => b
 | none => .skip
inductive LR where
 | x (id : Nat) (us : List AV)
 | r (us : List AV)
 | p (ch : List PE) (us : List AV)
inductive LT where
 | mk (f k : Nat) (us : List AV) (nxi : Nat) (Li : List HO) (A : List SA) (bd : Option (SE × SE)) (r : LR) (nxo : Nat) (Lo : List HO)
def ajb : LR → List AV
 | .x _ us => us
 | .r us => us
 | .p _ us => us
def ayo (f : AV → AV) : LR → LR
 | .x id us => .x id (shL f us)
 | .r us => .r (shL f us)
 | .p ch us => .p (an6 f ch) (shL f us)
def rOf (r : LR) (um : UM) (w : W) : R := match r with
 | .x id us => .x id (.mk (na us 0 lr) [] um w)
 | .r us => .r (.mk (na us 0 lr) [] um w)
 | .p ch us => .p ch (.mk (na us 0 lr) [] um w)
def a33 (o : Option Nat) : Option R := match o with
 | some m => some (.no m 0)
 | none => none
def ayq (us : List AV) (nxi : Nat) (Li : List HO) (A : List SA) (bd : Option (SE × SE)) (r : LR) (nxo : Nat) (Lo : List HO) (vs : List AV) (um : UM) (w : W) (nx : Nat) (KL : List (Nat × Nat)) (θ : Nat → GE) (A0 : List SA) (Li' Lo' : List HO) : Option R :=
 bc (a3p vs us nxi nxo nx KL θ A A0 Li Lo Li' Lo' w && a0l bd θ A0) (some (rOf (ayo (db (d8 KL nxi nx) θ A0 8) r) um (.mk (uj Lo' (pd Li' (hOf w))) (K.of (nx + (nxo - nxi)))))) (a33 (a34 (a4d vs us nxi nxo nx KL θ A0 Li Lo Li' Lo' w) (an8 bd θ A A0)))
def ays (us : List AV) (nxi : Nat) (Li : List HO) (A : List SA) (bd : Option (SE × SE)) (r : LR) (nxo : Nat) (Lo : List HO) (vs : List AV) (um : UM) (w : W) (M : MT) (A0 : List SA) : Option R :=
 bc (ap3 (thM M)) (ayq us nxi Li A bd r nxo Lo vs um w (wnx w).num (alz M) (aka M) A0 (bj (d8 (alz M) nxi (wnx w).num) (aka M) A0 Li) (bj (d8 (alz M) nxi (wnx w).num) (aka M) A0 Lo)) none
end
section
variable [Gv]
def am9 (ρ : Env) (aw : W) (w : World) (cs : List Frame) (r : LR) (aw' : W) (e : Exit) (a' : Act) (cs' : List Frame) (w' : World) : Prop := cs' = cs ∧ a'.defers = [] ∧ ∃ ρ', Adv ρ aw w ρ' aw' w' ∧ match r with
 | .x id us => e = .exit id ∧ VRels ρ' us a'.tmps.toList
 | .r us => e = .ret ∧ VRels ρ' us a'.tmps.toList
 | .p ch us => ∃ ch', e = .panic ch' ∧ ChRel ρ' ch ch' ∧ VRels ρ' us a'.tmps.toList
def aku (f k : Nat) (us : List AV) (nxi : Nat) (Li : List HO) (r : LR) (nxo : Nat) (Lo : List HO) : Prop :=
 ∀ b, yp f k = some b → ∀ (ρ : Env) (a : Act) (cs : List Frame) (w : World), GRel ρ → WRel ρ (bf Li nxi) w → Clean ρ (bf Li nxi) → us.length ≤ 512 → VRels ρ us a.tmps.toList → a.defers = [] →
  WS false none f PP (.loop b) (am9 ρ (bf Li nxi) w cs r (bf Lo nxo)) a cs w ∧ WL false none f PP b (am9 ρ (bf Li nxi) w cs r (bf Lo nxo)) a cs w
def uu : LT → Prop
 | .mk f k us nxi Li A bd r nxo Lo => ∀ σ : Nat → List Int, σ 99 = Gv.σ 99 → SAll σ A → afu σ bd → @aku ⟨σ⟩ f k us nxi Li r nxo Lo
theorem ig : ∀ (x b : Code), b ∈ ci x → CSub (.loop b) x
 | .seq x y, b, h => by
   simp only [ci, List.mem_append] at h
   rcases h with h | h
   ·exact sub_up (ig x b h) (.seqL (.refl _))
   ·exact sub_up (ig y b h) (.seqR (.refl _))
 | .cond v x y, b, h => by
   simp only [ci, List.mem_append] at h
   rcases h with h | h
   ·exact sub_up (ig x b h) (.condT (.refl _))
   ·exact sub_up (ig y b h) (.condF (.refl _))
 | .block id x, b, h => sub_up (ig x b (by simpa [ci] using h)) (.block (.refl _))
 | .loop x, b, h => by
   simp only [ci, List.mem_cons] at h
   rcases h with h | h
   ·subst h; exact .refl _
   ·exact sub_up (ig x b h) (.loop (.refl _))
 | .skip, _, h | .region .., _, h | .rangeFunc .., _, h | .exit _, _, h | .scope _, _, h | .label _, _, h | .goto _, _, h | .ret, _, h | .refuse _, _, h => by simp [ci] at h
where
 sub_up {a b c : Code} (h : CSub a b) (g : CSub b c) : CSub a c := by
  induction h with
  | refl => exact g
  | seqL _ ih => exact .seqL (ih g)
  | seqR _ ih => exact .seqR (ih g)
  | condT _ ih => exact .condT (ih g)
  | condF _ ih => exact .condF (ih g)
  | block _ ih => exact .block (ih g)
  | loop _ ih => exact .loop (ih g)
theorem aqm {a x : Code} (h : CSub a x) : ∀ b, b ∈ ci a → b ∈ ci x := by
 induction h with
 | refl => exact fun b h => h
 | seqL _ ih => exact fun b h => ih b (by simp [ci, h])
 | seqR _ ih => exact fun b h => ih b (by simp [ci, h])
 | condT _ ih => exact fun b h => ih b (by simp [ci, h])
 | condF _ ih => exact fun b h => ih b (by simp [ci, h])
 | block _ ih => exact fun b h => ih b (by simp [ci, h])
 | loop _ ih => exact fun b h => ih b (by simp [ci, h])
theorem pickId_mem {k : Nat} {c : Code} : ∀ {l : List Code}, c ∈ si k l ↔ c ∈ l ∧ ko c = k
 | [] => by simp [si]
 | x :: l => by
   simp only [si, aa]
   split
   ·rename_i h
    have h := zW h
    simp only [List.mem_cons, pickId_mem (l := l)]
    constructor
    ·rintro (rfl | ⟨h1, h2⟩)
     ·exact ⟨.inl rfl, h⟩
     ·exact ⟨.inr h1, h2⟩
    ·rintro ⟨rfl | h1, h2⟩
     ·exact .inl rfl
     ·exact .inr ⟨h1, h2⟩
   ·rename_i h
    simp only [List.mem_cons, pickId_mem (l := l)]
    constructor
    ·rintro ⟨h1, h2⟩; exact ⟨.inr h1, h2⟩
    ·rintro ⟨rfl | h1, h2⟩
     ·exact absurd (by rw [h2]; exact Nat.beq_refl k) h
     ·exact ⟨h1, h2⟩
theorem a3d {l : List Code} {b : Code} (h : a5m l = some b) : l = [b] := by
 unfold a5m at h
 split at h
 ·injection h with h; rw [h]
 ·cases h
theorem aex {f k : Nat} {b : Code} (h : yp f k = some b) : InF f (.loop b) ∧ ∀ c, InF f (.loop c) → ko c = k → c = b := by
 unfold yp at h
 split at h
 ·rename_i x hx
  have h := a3d h
  have hb : b ∈ si k (ci x.2) := by rw [h]; simp
  refine ⟨⟨x.1, x.2, hx, ig _ _ (pickId_mem.1 hb).1⟩, ?_⟩
  rintro c ⟨fn, y, h1, h2⟩ hc
  rw [hx] at h1
  injection h1 with h1
  have : y = x.2 := by rw [h1]
  subst this
  have : c ∈ si k (ci x.2) := pickId_mem.2 ⟨aqm h2 c (by simp [ci]), hc⟩
  rw [h] at this
  simpa using this
 ·cases h
theorem aop {d : Bool} {ro : Option Nat} {fn : Nat} {P : Program} {c : Code} {Q Q' : Exit → Act → List Frame → World → Prop} {a : Act} {cs : List Frame} {w : World} (h : WL d ro fn P c Q a cs w) (hq : ∀ e a cs w, Q e a cs w → Q' e a cs w) : WL d ro fn P c Q' a cs w :=
 fun b k h1 h2 h3 => let ⟨e, a', cs', w', q, r⟩ := h b k h1 h2 h3; ⟨e, a', cs', w', hq _ _ _ _ q, r⟩
theorem azg {ρ : Env} {aw aw2 : W} {w : World} {c₀ : Frame} {cs : List Frame} {r : LR} {um : UM} {nt : Nat} {e : Exit} {a' : Act} {cs' : List Frame} {w' : World} {ρ' : Env} (hg : GRel ρ) (hc : Clean ρ aw) (hcs : cs' = cs) (hd : a'.defers = []) (hA : Adv ρ aw w ρ' aw2 w')
  (hn : (ajb r).length = nt) (h512 : nt ≤ 512)
  (hp : match r with
    | .x id us => e = .exit id ∧ VRels ρ' us a'.tmps.toList
    | .r us => e = .ret ∧ VRels ρ' us a'.tmps.toList
    | .p ch us => ∃ ch', e = .panic ch' ∧ ChRel ρ' ch ch' ∧ VRels ρ' us a'.tmps.toList) : Post ρ aw w nt false c₀ cs (rOf r um aw2) e a' cs' w' := by
 have hS : VRels ρ' (ajb r) a'.tmps.toList → SRel ρ' nt false c₀ cs (na (ajb r) 0 lr) [] um aw2 a' cs' w' := by
  intro hv
  have hlen : a'.tmps.size = (ajb r).length := by have := VRels.length _ _ hv; simpa using this
  exact ⟨hg.mono hA.le, hA.rel, hc.adv hA, ade hv (by omega), by omega, h512, hd, hcs⟩
 cases r with
 | x id us => exact ⟨hp.1, ρ', hA, hS hp.2⟩
 | r us => exact ⟨hp.1, ρ', hA, hS hp.2⟩
 | p ch us => obtain ⟨ch', h1, h2, h3⟩ := hp; exact ⟨ch', ρ', h1, h2, hA, hS h3⟩
theorem ayp (f : AV → AV) (r : LR) : (ajb (ayo f r)).length = (ajb r).length := by cases r <;> exact jx _ _
set_option maxHeartbeats 1000000 in
theorem ayr {f k : Nat} {us : List AV} {nxi : Nat} {Li : List HO} {A : List SA} {bd : Option (SE × SE)} {r : LR} {nxo : Nat} {Lo : List HO} (hT : uu (.mk f k us nxi Li A bd r nxo Lo)) {um : UM} {τ : F} {aw : W} {nt : Nat} {KL : List (Nat × Nat)} {θ : Nat → GE} {A0 : List SA}
  (h99 : (θ 99).eval Gv.σ = Gv.σ 99) {R : R} (hR : R.ok) {b : Code} (hb : yp f k = some b) (hus : us.length = nt) (hru : (ajb r).length = nt) (h512 : nt ≤ 512)
  (hr : ayq us nxi Li A bd r nxo Lo (lg τ nt 0) um aw (wnx aw).num KL θ A0 (bj (d8 KL nxi (wnx aw).num) θ A0 Li) (bj (d8 KL nxi (wnx aw).num) θ A0 Lo) = some R)
  {ρ : Env} {c₀ : Frame} {cs₀ : List Frame} {a : Act} {cs : List Frame} {w : World} (hA : SAll Gv.σ A0) (h : SRel ρ nt false c₀ cs₀ τ [] um aw a cs w) :
  WS false none f PP (.loop b) (Post ρ aw w nt false c₀ cs₀ R) a cs w ∧ WL false none f PP b (Post ρ aw w nt false c₀ cs₀ R) a cs w := by
 unfold ayq at hr
 rw [aa] at hr
 split at hr
 case isFalse =>
  unfold a33 at hr
  split at hr
  ·injection hr with hr; subst hr; exact hR.elim
  ·cases hr
 rename_i hok
 injection hr with hr
 subst hr
 rw [zU] at hok
 obtain ⟨hok, hbd⟩ := hok
 unfold a3p at hok
 obtain ⟨k1, hok⟩ := bcT.1 hok
 obtain ⟨k2, hok⟩ := bcT.1 hok
 obtain ⟨k3, hok⟩ := bcT.1 hok
 obtain ⟨k4, k5⟩ := bcT.1 hok
 simp only [zU] at k1 k2 k3 k4
 obtain ⟨⟨⟨⟨b1, b2⟩, b3⟩, b4⟩, b5⟩ := k1
 obtain ⟨⟨⟨⟨d1, d2⟩, d3⟩, d4⟩, d5⟩ := k2
 obtain ⟨f1, f2⟩ := k3
 obtain ⟨⟨g1, g2⟩, g3⟩ := k4
 have b1 := zE b1
 have b2 := zE b2
 have b3 := zE b3
 have b4 := zE b4
 have b5 := zE b5
 have hSA := vf hA k5
 have sub := aiu hA (nx := (wnx aw).num) (K.of_of _) g1 g2
 have hcl : Clean ρ (bf (bj (d8 KL nxi (wnx aw).num) θ A0 Li) (wnx aw).num) := fun k hk => h.cl k (by rw [← sub.nx]; exact hk)
 obtain ⟨ρt, q1, q2, q3, q4, q5⟩ := azm (σ := Gv.σ) (θ := θ) hA b1 b2 b3 b4 b5 d1 d2 d3 d4 h.g (h.wr.sub sub) hcl
 have hv : VRels ρ (lg τ nt 0) a.tmps.toList := by
  have := pn h.fr nt 0 (by rw [h.sz]; omega)
  simpa using this
 have hv' : @VRels (GvS Gv.σ θ) ρt us a.tmps.toList := aim (fun x v p h => fwd hA q4 8 x v p h) d5 (tv (sd hA 8) g3 hv)
 have hds : a.defers = [] := h.dr
 have hcs : cs = cs₀ := h.um
 have key := hT (fun i => (θ i).eval Gv.σ) h99 hSA (ane hA hbd) b hb ρt a cs w q1 q2 q3 (by omega) hv' hds
 have fin : ∀ e a' cs' w', @am9 (GvS Gv.σ θ) ρt (bf Li nxi) w cs r (bf Lo nxo) e a' cs' w' →
   Post ρ aw w nt false c₀ cs₀ (rOf (ayo (db (d8 KL nxi (wnx aw).num) θ A0 8) r) um (.mk (uj (bj (d8 KL nxi (wnx aw).num) θ A0 Lo) (pd (bj (d8 KL nxi (wnx aw).num) θ A0 Li) (hOf aw))) (K.of ((wnx aw).num + (nxo - nxi))))) e a' cs' w' := by
  intro e a' cs' w' hp
  obtain ⟨p1, p2, ρ1, hA1, hp⟩ := hp
  obtain ⟨ρ', hA2, hkb⟩ := q5 ρ1 w' hA1
  have hA3 := yg h.wr h.cl sub f1 f2 b5 hA2
  have back : ∀ {us : List AV} {xs : List Value}, @VRels (GvS Gv.σ θ) ρ1 us xs → VRels ρ' (shL (db (d8 KL nxi (wnx aw).num) θ A0 8) us) xs := fun hv => ahx (fun x v h => bwd hA hkb 8 x v h) hv
  subst p1 hcs
  refine azg h.g h.cl rfl p2 hA3 (by rw [ayp]; exact hru) h512 ?_
  cases r with
  | x id us => exact ⟨hp.1, back hp.2⟩
  | r us => exact ⟨hp.1, back hp.2⟩
  | p ch us => obtain ⟨ch', h1, h2, h3⟩ := hp; exact ⟨ch', h1, arh hA hkb h2, back h3⟩
 exact ⟨qv key.1 fin, aop key.2 fin⟩
theorem ai1 (ρ : Env) (k : K) : gd ρ ρ k k := fun c h => ⟨h, rfl⟩
end
noncomputable section
def aVs (A : List SA) (us : List AV) : List AV := shL (db (fun k => k) GE.s A 8) us
def aHO (A : List SA) : List HO → List HO
 | [] => []
 | .mk k o :: l => .mk k (sj (fun k => k) GE.s A o) :: aHO A l
def afl : List HO → Bool
 | [] => true
 | .mk _ o :: l => bc (xn o) (afl l) false
def a26 (T : List (Nat × Nat)) (nxi : Nat) (E : EqL) (τ : F) (nt : Nat) (us : List AV) : Bool := leAV.leL (leR (sq T nxi) E 8) (lg τ nt 0) us
def arf (f : AV → AV → Bool) : List PE → List PE → Bool
 | [], [] => true
 | .mk v b :: l, .mk u c :: m => bc (f v u) (bc (ao0 b c) (arf f l m) false) false
 | _, _ => false
def ak6 (T : List (Nat × Nat)) (nxi nxo : Nat) (E : EqL) (Lo : List HO) (w : W) : Bool :=
 bc (Nat.ble 256 nxi && Nat.ble nxi nxo && Nat.ble nxo 65535) (bc (tabOk Lo T nxi nxo T) (bc (nc laidL w) (ait T E nxi w Lo) false) false) false
def aal (T : List (Nat × Nat)) (nxi nxo : Nat) (E : EqL) (Lo : List HO) (nt : Nat) (r : LR) (R : R) : Bool := match r, R with
 | .x id us, .x id' (.mk τ [] _ w) => bc (Nat.beq id id') (bc (a26 T nxi E τ nt us) (ak6 T nxi nxo E Lo w) false) false
 | .r us, .r (.mk τ [] _ w) => bc (a26 T nxi E τ nt us) (ak6 T nxi nxo E Lo w) false
 | .p ch us, .p ch' (.mk τ [] _ w) => bc (arf (leR (sq T nxi) E 8) ch' ch) (bc (a26 T nxi E τ nt us) (ak6 T nxi nxo E Lo w) false) false
 | _, _ => false
def vw (T : List (Nat × Nat)) (nxi nxo : Nat) (E : EqL) (Lo : List HO) (r : TR) (R : CR) : Bool := match r, R with
 | .ret v, .ret v' w => bc (leR (sq T nxi) E 8 v' v) (ak6 T nxi nxo E Lo w) false
 | .pan ch, .pan ch' w => bc (arf (leR (sq T nxi) E 8) ch' ch) (ak6 T nxi nxo E Lo w) false
 | _, _ => false
end
section
variable [Gv]
theorem ana {ρ : Env} {A : List SA} (hA : SAll Gv.σ A) {us : List AV} {xs : List Value} (h : VRels ρ us xs) : VRels ρ (aVs A us) xs :=
 ahx (σ := Gv.σ) (θ := GE.s) (ρ := ρ) (ρt := ρ) (fun x v h => bwd (σ := Gv.σ) (θ := GE.s) hA (fun k => ai1 ρ k) 8 x v h) h
theorem a6b {A : List SA} (hA : SAll Gv.σ A) {nx : Nat} : ∀ {L : List HO}, afl L = true → ∀ k, ac k (ae (aHO A L)) ≠ .none →
  ac k (ae L) ≠ .none ∧ (ac k (ae (aHO A L))).isRo = (ac k (ae L)).isRo ∧ ∀ ρ x, ORel ρ (ac k (ae L)) x → ORel ρ (ac k (ae (aHO A L))) x
 | [], _, k, h => ⟨h, rfl, fun _ _ h => h⟩
 | .mk n o :: L, ht, k, h => by
   simp only [afl] at ht
   obtain ⟨t1, t2⟩ := bcT.1 ht
   simp only [aHO, ae] at h ⊢
   by_cases e : k = K.of n
   ·subst e
    rw [af, af]
    exact ⟨ajn _, sk _ _ _ _, fun ρ x hx => a6f (σ := Gv.σ) (θ := GE.s) hA (fun k => ai1 ρ k) t1 hx⟩
   ·rw [ak e] at h ⊢
    rw [ak e]
    exact a6b (nx := nx) hA t2 k h
theorem aLh {A : List SA} : ∀ {L : List HO} (k : K) (kd : Nat) (g : GE), ay (ac k (ae (aHO A L))) = some (kd, g) → ∃ g', ay (ac k (ae L)) = some (kd, g') ∧ g.eval Gv.σ = g'.eval Gv.σ
 | [], k, kd, g, h => ⟨g, h, rfl⟩
 | .mk n o :: L, k, kd, g, h => by
   simp only [aHO, ae] at h ⊢
   by_cases e : k = K.of n
   ·subst e
    rw [af] at h ⊢
    have : ay (dh o) ≠ none := fun e => by rw [acz e] at h; cases h
    obtain ⟨kd', g', e1, e2⟩ := acy (κ := fun k => k) (θ := GE.s) (A := A) this
    rw [h] at e2
    injection e2 with e2
    injection e2 with e2 e3
    subst e2 e3
    exact ⟨g', e1, by rw [GE.sub_eval]; rfl⟩
   ·rw [ak e] at h ⊢
    exact aLh k kd g h
theorem a3x {A : List SA} (hA : SAll Gv.σ A) {nx : Nat} {L : List HO} (h : afl L = true) : Sub (bf (aHO A L) nx) (bf L nx) := ⟨rfl, a6b (nx := nx) hA h, fun k kd g h => aLh k kd g h⟩
theorem aba {ρ1 ρ2 : Env} {f : AV → AV → Bool} (hf : ∀ a b x, f a b = true → VRel ρ1 a x → VRel ρ2 b x) : ∀ {l m : List PE} {xs : List PanicEntry}, arf f l m = true → ChRel ρ1 l xs → ChRel ρ2 m xs
 | [], [], _, _, h => h
 | [], .mk _ _ :: _, _, h, _ => by cases h
 | .mk _ _ :: _, [], _, h, _ => by cases h
 | .mk v b :: l, .mk u c :: m, _, h, ⟨v', ch', e1, e2, e3⟩ => by
   simp only [arf] at h
   obtain ⟨h1, h2⟩ := bcT.1 h
   obtain ⟨h2, h3⟩ := bcT.1 h2
   have h2 := vt h2
   subst h2
   exact ⟨v', ch', e1, hf _ _ _ h1 e2, aba hf h3 e3⟩
theorem wh {T : List (Nat × Nat)} {nxi nxo : Nat} {E : EqL} {Lo : List HO} {ρ ρ1 : Env} {a a1 : W} {w w1 : World} (hc : Clean ρ a) (hnx : a.nx.num = nxi) (hE : E.all Gv.σ) (h : ak6 T nxi nxo E Lo a1 = true) (hA : Adv ρ a w ρ1 a1 w1) :
  ∃ ρ2, Adv ρ a w ρ2 (bf Lo nxo) w1 ∧ ∀ k k', sq T nxi k = some k' → gd ρ1 ρ2 k k' := by
 unfold ak6 at h
 obtain ⟨h1, h⟩ := bcT.1 h
 obtain ⟨h2, h⟩ := bcT.1 h
 obtain ⟨h3, h4⟩ := bcT.1 h
 simp only [zU] at h1
 exact a3i hc hnx hE (zE h1.1.1) (zE h1.1.2) (zE h1.2) h2 h3 h4 hA
theorem yq {H : akt} (hH : xr H) {L : aav} (hL : aot L) {n f k : Nat} {us : List AV} {nxi : Nat} {Li : List HO} {A : List SA} {r : LR} {nxo : Nat} {Lo : List HO} {T : List (Nat × Nat)} {E : EqL} (hA : SAll Gv.σ A) (hE : E.all Gv.σ) (hx : Nat.blt nxi 65536 = true)
  (ht : afl Li = true) (h : aal T nxi nxo E Lo (bl us) r (xy (akx f k) (ajx H L n) (.mk f (bl us) false none) (.mk (na (aVs A us) 0 lr) [] .none (bf (aHO A Li) nxi))) = true) : aku f k us nxi Li r nxo Lo := by
 intro b hb ρ a cs w hg hw hc h512 hv hd
 have hbody : akx f k = b := by unfold akx; rw [hb]
 rw [hbody, ao] at h
 have sub := a3x hA (nx := nxi) ht
 have hva := ana hA hv
 have hlen : a.tmps.size = us.length := by have := VRels.length _ _ hv; simpa using this
 have hla : (aVs A us).length = us.length := jx _ _
 have hS : SRel ρ us.length false (default : Frame) cs (na (aVs A us) 0 lr) [] .none (bf (aHO A Li) nxi) a cs w :=
  ⟨hg, hw.sub sub, fun k hk => hc k hk, ade hva (by omega), hlen, h512, hd, rfl⟩
 have hnum : (bf Li nxi).nx.num = nxi := cr (zE hx)
 generalize hR : xy b (ajx H L n) (.mk f us.length false none) (.mk (na (aVs A us) 0 lr) [] .none (bf (aHO A Li) nxi)) = R at h
 have hok : R.ok := by cases R <;> first | trivial | (cases r <;> cases h)
 have key := ai8 (ag8 hH hL n) (rk := none) hS rfl (fun _ => (aex hb).1) (by rw [hR]; exact hok)
 rw [hR] at key
 have fin : ∀ e a' cs' w', Post ρ (bf (aHO A Li) nxi) w us.length false default cs R e a' cs' w' → am9 ρ (bf Li nxi) w cs r (bf Lo nxo) e a' cs' w' := by
  intro e a' cs' w' hp
  have slots : ∀ {ρ1 ρ2 : Env} {τ : F} {um : UM} {aw : W} {vs : List AV}, SRel ρ1 us.length false default cs τ [] um aw a' cs' w' → a26 T nxi E τ us.length vs = true → (∀ k k', sq T nxi k = some k' → gd ρ1 ρ2 k k') → VRels ρ2 vs a'.tmps.toList := by
   intro ρ1 ρ2 τ um aw vs hs hl hk
   have hv : VRels ρ1 (lg τ us.length 0) a'.tmps.toList := by
    have := pn hs.fr us.length 0 (by rw [hs.sz]; omega)
    simpa using this
   exact nd (n8 hE hk 8) hl hv
  cases R with
  | n S => cases r <;> cases h
  | no c f => cases r <;> cases h
  | x id' S =>
    obtain ⟨τ, ds, um, aw⟩ := S
    obtain ⟨rfl, ρ1, hA1, hS1⟩ := hp
    cases r <;> try (cases h; done)
    rename_i id vs
    cases ds <;> try (cases h; done)
    simp only [aal] at h
    obtain ⟨h1, h⟩ := bcT.1 h
    obtain ⟨h2, h3⟩ := bcT.1 h
    have h1 := zW h1
    subst h1
    obtain ⟨ρ2, hA2, hk⟩ := wh hc hnum hE h3 (hA1.left sub)
    exact ⟨hS1.um, hS1.dr, ρ2, hA2, rfl, slots hS1 h2 hk⟩
  | r S =>
    obtain ⟨τ, ds, um, aw⟩ := S
    obtain ⟨rfl, ρ1, hA1, hS1⟩ := hp
    cases r <;> try (cases h; done)
    rename_i vs
    cases ds <;> try (cases h; done)
    simp only [aal] at h
    obtain ⟨h2, h3⟩ := bcT.1 h
    obtain ⟨ρ2, hA2, hk⟩ := wh hc hnum hE h3 (hA1.left sub)
    exact ⟨hS1.um, hS1.dr, ρ2, hA2, rfl, slots hS1 h2 hk⟩
  | p ch S =>
    obtain ⟨τ, ds, um, aw⟩ := S
    obtain ⟨ch', ρ1, rfl, hch, hA1, hS1⟩ := hp
    cases r <;> try (cases h; done)
    rename_i ch2 vs
    cases ds <;> try (cases h; done)
    simp only [aal] at h
    obtain ⟨h1, h⟩ := bcT.1 h
    obtain ⟨h2, h3⟩ := bcT.1 h
    obtain ⟨ρ2, hA2, hk⟩ := wh hc hnum hE h3 (hA1.left sub)
    exact ⟨hS1.um, hS1.dr, ρ2, hA2, ch', rfl, aba (n8 hE hk 8) h1 hch, slots hS1 h2 hk⟩
 exact ⟨qv key.1 fin, aop key.2 fin⟩
theorem cy {H : akt} (hH : xr H) {L : aav} (hL : aot L) {n f : Nat} {us : List AV} {nxi : Nat} {Li : List HO} {A : List SA} {r : TR} {nxo : Nat} {Lo : List HO} {T : List (Nat × Nat)} {E : EqL} (hA : SAll Gv.σ A) (hE : E.all Gv.σ) (hx : Nat.blt nxi 65536 = true)
  (ht : afl Li = true) (h : vw T nxi nxo E Lo r (enter (ajx H L n) f (aVs A us) (bf (aHO A Li) nxi)) = true) : lm f us nxi Li r nxo Lo := by
 intro ρ args w hg hw hc hv
 have sub := a3x hA (nx := nxi) ht
 have hnum : (bf Li nxi).nx.num = nxi := cr (zE hx)
 generalize hR : enter (ajx H L n) f (aVs A us) (bf (aHO A Li) nxi) = R at h
 have hok : R.ok := by cases R <;> first | trivial | (cases r <;> cases h)
 have key := oz (ag8 hH hL n) hg (hw.sub sub) (fun k hk => hc k hk) (f := f) (ana hA hv) (by rw [hR]; exact hok)
 rw [hR] at key
 refine Calls.mono key fun e w' hp => ?_
 cases R with
 | no => cases r <;> cases h
 | ret v' aw =>
   cases r <;> try (cases h; done)
   rename_i v
   obtain ⟨x, ρ1, rfl, hv', hA1⟩ := hp
   simp only [vw] at h
   obtain ⟨h1, h2⟩ := bcT.1 h
   obtain ⟨ρ2, hA2, hk⟩ := wh hc hnum hE h2 (hA1.left sub)
   exact ⟨x, ρ2, rfl, n8 hE hk 8 _ _ _ h1 hv', hA2⟩
 | pan ch' aw =>
   cases r <;> try (cases h; done)
   rename_i ch
   obtain ⟨x, ρ1, rfl, hv', hA1⟩ := hp
   simp only [vw] at h
   obtain ⟨h1, h2⟩ := bcT.1 h
   obtain ⟨ρ2, hA2, hk⟩ := wh hc hnum hE h2 (hA1.left sub)
   exact ⟨x, ρ2, rfl, aba (n8 hE hk 8) h1 hv', hA2⟩
end
end Go.Ev
set_option maxRecDepth 100000
set_option linter.all false
namespace Go.Ev
noncomputable section
def w9 (A1 : List SA) (l : List TM) (f : FuncId) (vs : List AV) (w : W) : Option CR := match l with
 | [] => none
 | .mk g us nxi Li A bd r nxo Lo :: l => bc (Nat.beq f g) (match az3 us nxi Li A bd r nxo Lo vs w (ayt w Li (mL (mAV 8) us vs (.mk [] []))) A1 with
   | some c => some c
   | none => w9 A1 l f vs w) (w9 A1 l f vs w)
def ai9 (A1 : List SA) (f nt : Nat) (b : Code) (τ : F) (um : UM) (w : W) : List LT → Option R
 | [] => none
 | .mk g k us nxi Li A bd r nxo Lo :: l => bc (Nat.beq f g && Nat.beq (ko b) k && (yp f k).isSome && Nat.beq (bl us) nt && Nat.beq (bl (ajb r)) nt) (match ays us nxi Li A bd r nxo Lo (lg τ nt 0) um w (ayt w Li (mL (mAV 8) us (lg τ nt 0) (.mk [] []))) A1 with
   | some R => some R
   | none => ai9 A1 f nt b τ um w l) (ai9 A1 f nt b τ um w l)
def a74 (A1 : List SA) (l : List LT) : aav := fun C b S => match C, S with
 | .mk f nt false none, .mk τ [] um w => ai9 A1 f nt b τ um w l
 | _, _ => none
end
section
variable [Gv]
theorem an9 {M : MT} (h : ap3 (thM M) = true) : (aka M 99).eval Gv.σ = Gv.σ 99 := by
 obtain ⟨KL, TH⟩ := M
 have e : w6 TH 99 = none := ae4 h
 show (match w6 TH 99 with | some g => g | none => GE.s 99).eval Gv.σ = _
 rw [e]
 simp only [GE.eval]
theorem ie {A1 : List SA} (hA1 : SAll Gv.σ A1) : ∀ (l : List TM), (∀ t ∈ l, fe t) → xr (w9 A1 l)
 | [], _ => fun _ _ _ _ h => by cases h
 | .mk g us nxi Li A bd r nxo Lo :: l, h => by
   have ih := ie hA1 l fun t hm => h t (zA _ hm)
   intro f vs aw R hr hok
   simp only [w9, aa] at hr
   split at hr
   ·rename_i hf
    have hf := zW hf
    subst hf
    split at hr
    ·rename_i c ht
     injection hr with hr
     subst hr
     intro ρ args w hg hw hc hv
     unfold az3 at ht
     rw [aa] at ht
     split at ht <;> try (cases ht; done)
     rename_i h99
     exact az2 (h _ (by simp)) (an9 h99) hok ht hA1 hg hw hc hv
    ·exact ih f vs aw R hr hok
   ·exact ih f vs aw R hr hok
theorem aja {A1 : List SA} (hA1 : SAll Gv.σ A1) {f nt : Nat} {b : Code} {τ : F} {um : UM} {aw : W} {R : R} (hR : R.ok) (hin : InF f (.loop b)) {ρ : Env} {c₀ : Frame} {cs₀ : List Frame} {a : Act} {cs : List Frame} {w : World} (h : SRel ρ nt false c₀ cs₀ τ [] um aw a cs w) :
  ∀ l : List LT, (∀ t ∈ l, uu t) → ai9 A1 f nt b τ um aw l = some R → WS false none f PP (.loop b) (Post ρ aw w nt false c₀ cs₀ R) a cs w ∧ WL false none f PP b (Post ρ aw w nt false c₀ cs₀ R) a cs w
 | [], _, hr => by cases hr
 | .mk g k us nxi Li A bd r nxo Lo :: l, hl, hr => by
   have ih := aja hA1 (R := R) hR hin h l fun t hm => hl t (zA _ hm)
   simp only [ai9, aa] at hr
   split at hr
   ·rename_i hc
    simp only [zU] at hc
    obtain ⟨⟨⟨⟨c1, c2⟩, c3⟩, c4⟩, c5⟩ := hc
    have c1 := zW c1
    have c2 := zW c2
    have c4 := zW c4
    have c5 := zW c5
    rw [ao] at c4 c5
    subst c1 c2
    obtain ⟨b', hb'⟩ := Option.isSome_iff_exists.1 c3
    have : b = b' := (aex hb').2 b hin rfl
    subst this
    split at hr
    ·rename_i c ht
     injection hr with hr
     subst hr
     unfold ays at ht
     rw [aa] at ht
     split at ht <;> try (cases ht; done)
     rename_i h99
     exact ayr (hl _ (by simp)) (an9 h99) hR hb' c4 c5 h.le ht hA1 h
    ·exact ih hr
   ·exact ih hr
theorem aam {A1 : List SA} (hA1 : SAll Gv.σ A1) (l : List LT) (hl : ∀ t ∈ l, uu t) : aot (a74 A1 l) := by
 intro f nt d rk b τ ds um aw R hr hok
 unfold a74 at hr
 split at hr
 ·rename_i heq1 heq2
  injection heq1 with e1 e2 e3 e4
  injection heq2 with e5 e6 e7 e8
  subst e1 e2 e3 e4 e5 e6 e7 e8
  exact ⟨rfl, fun hin ρ c₀ cs₀ a cs w h => aja hA1 hok hin h l hl hr⟩
 ·cases hr
end
end Go.Ev
set_option maxRecDepth 100000
set_option linter.all false
namespace Go.Ev
noncomputable section
inductive LTD where
 | mk (f k : Nat) (us : List AV) (ds : List AD) (nxi : Nat) (Li : List HO) (A : List SA) (bd : Option (SE × SE)) (r : LR) (nxo : Nat) (Lo : List HO)
end
section
variable [Gv]
set_option maxHeartbeats 1000000 in
end
noncomputable section
end
section
variable [Gv]
end
end Go.Ev
