import Derived.Test.YtocilenpboklbaaGreatDoorEvTd
set_option maxRecDepth 100000
set_option linter.all false
namespace Go.Ev
noncomputable section
inductive EqL where
 | nil
 | g (a b : GE) (l : EqL)
 | i (a b : SE) (l : EqL)
def inG (a b : GE) : EqL → Bool
 | .nil => false
 | .g a' b' l => bc (nj a a') (bc (nj b b') true (inG a b l)) (inG a b l)
 | .i _ _ l => inG a b l
def inS (a b : SE) : EqL → Bool
 | .nil => false
 | .i a' b' l => bc (ij a a') (bc (ij b b') true (inS a b l)) (inS a b l)
 | .g _ _ l => inS a b l
def eqG (E : EqL) (a b : GE) : Bool := bc (nj a b) true (inG a b E)
def eqS (E : EqL) (a b : SE) : Bool := bc (ij a b) true (inS a b E)
def py (T : List (Nat × Nat)) (nxi : Nat) (k : K) : Option K := match jk T k.num with
 | some m => some (K.of m)
 | none => bc (Nat.blt k.num nxi) (some k) none
def ajw : List (Nat × Nat) → List (Nat × Nat)
 | [] => []
 | p :: l => (p.2, p.1) :: ajw l
def sp (κ : K → Option K) (a b : K) : Bool := match κ a with
 | some c => K.beq c b
 | none => false
def fnR (κ : K → Option K) (f g : Fn) : Bool := match f, g with
 | .yield n, .yield m => sp κ (K.of n) (K.of m)
 | .yield _, _ => false
 | _, .yield _ => false
 | f, g => a28 f g
def leR (κ : K → Option K) (E : EqL) : Nat → AV → AV → Bool
 | 0, _, _ => false
 | n + 1, x, y => match x, y with
   | _, .top => true
   | .ptr b o, .ptr b' o' => bc (sp κ b b') (Nat.beq o o') false
   | .slice b o l c none, .slice b' o' l' c' none => sp κ b b' && Nat.beq o o' && Nat.beq l l' && Nat.beq c c'
   | .slice b o l c (some e), .slice b' o' l' c' (some e') => sp κ b b' && Nat.beq o o' && Nat.beq l l' && Nat.beq c c' && Nat.beq e e'
   | .slice b o len _ (some es), .gv (.sl b' es' m A) => sp κ b b' && Nat.beq o 0 && Nat.beq es es' && eqS E (.c (.ofNat len)) m && noA A
   | .map b, .map b' => sp κ b b'
   | .func f x y, .func g x' y' => bc (fnR κ f g) (bc (leAV.leL (leR κ E n) x x') (leAV.leL (leR κ E n) y y') false) false
   | .iface t a, .iface t' b => bc (Nat.beq t t') (leR κ E n a b) false
   | .agg l, .agg m => leAV.leL (leR κ E n) l m
   | .tuple l, .tuple m => leAV.leL (leR κ E n) l m
   | .sym k e _, .sym k' e' A' => ra k k' && eqS E e e' && noA A'
   | .int k m, .sym k' e' A' => ra k k' && eqS E (.c m) e' && noA A'
   | .gv (.str g _), .gv (.str g' A') => eqG E g g' && noA A'
   | .str l m, .gv (.str g' A') => afq l m && eqG E (.lit l m) g' && noA A'
   | .gv (.sl b es n _), .gv (.sl b' es' n' A') => sp κ b b' && Nat.beq es es' && eqS E n n' && noA A'
   | .gv (.ptr b es i o _), .gv (.ptr b' es' i' o' A') => sp κ b b' && Nat.beq es es' && eqS E i i' && Nat.beq o o' && noA A'
   | .gv (.sr b o n _), .gv (.sr b' o' n' A') => sp κ b b' && eqS E o o' && eqS E n n' && noA A'
   | .gv (.pr b o i _), .gv (.pr b' o' i' A') => sp κ b b' && eqS E o o' && eqS E i i' && noA A'
   | a, b => bc (free a) (axh a b) false
def an3 (f : AV → AV → Bool) : List (AV × AV) → List (AV × AV) → Bool
 | [], [] => true
 | a :: l, b :: m => bc (f a.1 b.1) (bc (f a.2 b.2) (an3 f l m) false) false
 | _, _ => false
def awk (κ : K → Option K) (E : EqL) (e : SE) (t : TypeId) (k : K) : List GP → Bool
 | [] => false
 | .mk e' t' k' :: l => bc (eqS E e' e && Nat.beq t t' && sp κ k' k) true (awk κ E e t k l)
def am8 (κ : K → Option K) (E : EqL) (ps' : List GP) : List GP → Bool
 | [] => true
 | .mk e t k :: l => bc (awk κ E e t k ps') (am8 κ E ps' l) false
def loR (κ : K → Option K) (E : EqL) (o : LO) (x : AObj) : Bool := match o, x with
 | .gp ro t n g ps, .gp ro' t' n' g' ps' => azv ro ro' && Nat.beq t t' && eqS E n' n && eqG E g' g && am8 κ E ps' ps
 | .loop fn nt id l ps kd, .loop .ready none fn' nt' τ ps' x y kd' => Nat.beq fn fn' && Nat.beq nt nt' && aiw ps ps' && sp κ kd' kd && Nat.beq (mi y) id && (zi fn id).isSome && Nat.beq (cx l) nt && leAV.leL (leR κ E 8) (ki τ nt 0) l
 | .cells t e fl fh l, .cells t' s e' fl' fh' c => Nat.beq t t' && azv e e' && Nat.beq fl fl' && Nat.beq fh fh' && Nat.beq s (cx l) && Nat.ble s 65536 && leAV.leL (leR κ E 8) (nf c s 0) l
 | .map es, .map es' => an3 (leR κ E 8) es' es
 | .gob (.gh t ks n g), .gob (.gh t' ks' n' g') => Nat.beq t t' && a3t ks ks' && eqS E n' n && eqG E g' g
 | .gob (.gmap m), .gob (.gmap m') => eqG E m' m
 | .gob (.iter g p A), .gob (.iter g' p' _) => eqG E g' g && eqS E p' p && noA A
 | .gob (.junk t), .gob (.gh t' _ _ _) => Nat.beq t t'
 | .gob (.lh k g), .gob (.lh k' g') => Nat.beq k k' && eqG E g' g
 | .gob (.rh o n g), .gob (.rh o' n' g') => eqS E o' o && eqS E n' n && eqG E g' g
 | .gob (.rb o n g), .gob (.rb o' n' g') => eqS E o' o && eqS E n' n && eqG E g' g
 | .gob (.gh t ks n g), .cells t' s e fl fh c => bc (ano [] (.gob (.gh t ks n g)) (.cells t' s e fl fh c)) true (ano [] (.gob (.gh t ks (.c (.ofNat (s / cx ks))) (auu ks (nf c ((s / cx ks) * cx ks) 0)))) (.cells t' s e fl fh c) && eqS E (.c (.ofNat (s / cx ks))) n && eqG E (auu ks (nf c ((s / cx ks) * cx ks) 0)) g)
 | .gob (.gmap m), .map es => (match a0m es .nil with
   | some g => ano [] (.gob (.gmap g)) (.map es) && eqG E g m
   | none => false)
 | .gob g, x => ano [] (.gob g) x
 | _, _ => false
def lb (T : List (Nat × Nat)) (nxi k : Nat) : Option Nat := bc (Nat.blt k nxi) (some k) (jk (ajw T) k)
def aq4 (T : List (Nat × Nat)) (E : EqL) (nxi : Nat) (w : W) : List HO → Bool
 | [] => true
 | .mk k o :: l => bc (match lb T nxi k with
   | some s => bc (Nat.blt s 65536 && Nat.blt k 65536) (loR (py T nxi) E o (eo (K.of s) w)) false
   | none => false) (aq4 T E nxi w l) false
def tabOk (Lo : List HO) (T0 : List (Nat × Nat)) (nxi nxo : Nat) : List (Nat × Nat) → Bool
 | [] => true
 | p :: l => bc (Nat.ble 256 p.1 && (Nat.ble nxi p.1 || ac6 (wx p.1 Lo)) && Nat.blt p.1 65536 && Nat.ble nxi p.2 && Nat.blt p.2 nxo && optIs (jk T0 p.1) p.2 && optIs (jk (ajw T0) p.2) p.1) (tabOk Lo T0 nxi nxo l) false
where optIs : Option Nat → Nat → Bool
 | some a, b => Nat.beq a b
 | none, _ => false
end
def EqL.all (σ : Nat → List Int) : EqL → Prop
 | .nil => True
 | .g a b l => a.eval σ = b.eval σ ∧ l.all σ
 | .i a b l => a.eval σ = b.eval σ ∧ l.all σ
section
variable [Gv]
theorem ane {a b : GE} : ∀ {E : EqL}, E.all Gv.σ → inG a b E = true → a.eval Gv.σ = b.eval Gv.σ
 | .nil, _, h => by cases h
 | .g a' b' l, hE, h => by
   simp only [inG, ac] at h
   split at h
   ·rename_i h1
    split at h
    ·rename_i h2
     rw [ei _ _ h1, ei _ _ h2]; exact hE.1
    ·exact ane hE.2 h
   ·exact ane hE.2 h
 | .i _ _ l, hE, h => ane hE.2 h
theorem anf {a b : SE} : ∀ {E : EqL}, E.all Gv.σ → inS a b E = true → a.eval Gv.σ = b.eval Gv.σ
 | .nil, _, h => by cases h
 | .i a' b' l, hE, h => by
   simp only [inS, ac] at h
   split at h
   ·rename_i h1
    split at h
    ·rename_i h2
     rw [bz _ _ h1, bz _ _ h2]; exact hE.1
    ·exact anf hE.2 h
   ·exact anf hE.2 h
 | .g _ _ l, hE, h => anf hE.2 h
theorem qw {E : EqL} (hE : E.all Gv.σ) {a b : GE} (h : eqG E a b = true) : a.eval Gv.σ = b.eval Gv.σ := by
 unfold eqG at h
 rw [ac] at h
 split at h
 ·rename_i h1; rw [ei _ _ h1]
 ·exact ane hE h
theorem kh {E : EqL} (hE : E.all Gv.σ) {a b : SE} (h : eqS E a b = true) : a.eval Gv.σ = b.eval Gv.σ := by
 unfold eqS at h
 rw [ac] at h
 split at h
 ·rename_i h1; rw [bz _ _ h1]
 ·exact anf hE h
variable {ρ1 ρ2 : Env} {κ : K → Option K} {E : EqL}
theorem ik (hk : ∀ k k', κ k = some k' → jp ρ1 ρ2 k k') {a b : K} (h : sp κ a b = true) : jp ρ1 ρ2 a b := by
 unfold sp at h
 split at h
 ·rename_i c hc
  rw [← (K.beq_iff _ _).1 h]; exact hk _ _ hc
 ·cases h
theorem md {f : AV → AV → Bool} (hf : ∀ a b x, f a b = true → VRel ρ1 a x → VRel ρ2 b x) : ∀ {l m : List AV} {xs : List Value}, leAV.leL f l m = true → VRels ρ1 l xs → VRels ρ2 m xs
 | [], [], _, _, h => by simp only [VRels] at h ⊢; exact h
 | [], _ :: _, _, h, _ => by cases h
 | _ :: _, [], _, h, _ => by cases h
 | a :: l, b :: m, _, h, hx => by
   simp only [leAV.leL] at h
   obtain ⟨h1, h2⟩ := bcT.1 h
   simp only [VRels] at hx ⊢
   obtain ⟨v, vs, e, q1, q2⟩ := hx
   exact ⟨v, vs, e, hf _ _ _ h1 q1, md hf h2 q2⟩
theorem ba6 (hk : ∀ k k', κ k = some k' → jp ρ1 ρ2 k k') {f g f' : Fn} (h : fnR κ f g = true) (q : FnRel ρ1 f f') : FnRel ρ2 g f' := by
 unfold fnR at h
 split at h
 ·obtain ⟨c, q1, q2⟩ := q
  exact ⟨c, (ik hk h c q1).1, q2⟩
 ·cases h
 ·cases h
 ·rename_i n1 n2
  have e := am5 h
  subst e
  have hy : ∀ n, f ≠ .yield n := fun n e => n1 n e
  rw [FnRel.plain hy q]
  exact FnRel.refl hy
theorem lu (hE : E.all Gv.σ) (hk : ∀ k k', κ k = some k' → jp ρ1 ρ2 k k') : ∀ n a b x, leR κ E n a b = true → VRel ρ1 a x → VRel ρ2 b x
 | 0, _, _, _, h, _ => by cases h
 | n + 1, a, b, x, h, hx => by
   have ih := lu hE hk n
   unfold leR at h
   split at h
   ·simp only [VRel]
   ·obtain ⟨h1, h2⟩ := bcT.1 h
    have h2 := zW h2
    subst h2
    simp only [VRel] at hx ⊢
    obtain ⟨c, q1, q2⟩ := hx
    exact ⟨c, (ik hk h1 c q1).1, q2⟩
   ·simp only [zU] at h
    obtain ⟨⟨⟨h1, h2⟩, h3⟩, h4⟩ := h
    have h2 := zW h2
    have h3 := zW h3
    have h4 := zW h4
    subst h2 h3 h4
    simp only [VRel] at hx ⊢
    obtain ⟨c, cap', q1, q2, q3, q4⟩ := hx
    exact ⟨c, cap', (ik hk h1 c q1).1, q2, a8f (ik hk h1 c q1).2 q3, q4⟩
   ·simp only [zU] at h
    obtain ⟨⟨⟨⟨h1, h2⟩, h3⟩, h4⟩, h5⟩ := h
    have h2 := zW h2
    have h3 := zW h3
    have h4 := zW h4
    have h5 := zW h5
    subst h2 h3 h4 h5
    simp only [VRel] at hx ⊢
    obtain ⟨c, cap', q1, q2, q3, q4⟩ := hx
    exact ⟨c, cap', (ik hk h1 c q1).1, q2, a8f (ik hk h1 c q1).2 q3, q4⟩
   ·rename_i b' es' m A
    simp only [zU] at h
    obtain ⟨⟨⟨⟨h1, h2⟩, h3⟩, h4⟩, h5⟩ := h
    have h2 := zW h2
    have h3 := zW h3
    have h4 := kh hE h4
    have h5 := ko h5
    subst h2 h3 h5
    simp only [VRel] at hx ⊢
    obtain ⟨c, cap', q1, ⟨q2, q3⟩, q4, q5⟩ := hx
    simp only [SlOk] at q4
    simp only [SE.eval] at h4
    have hsz := (ik hk h1 c q1).2
    refine ⟨SAll.nil, c, cap', (ik hk h1 c q1).1, ?_, ?_, ?_, ?_⟩
    ·rw [← h4]; exact Int.natCast_nonneg _
    ·rw [← h4]; simp; omega
    ·rw [hsz]; omega
    ·rw [q5, ← h4]; simp
   ·simp only [VRel] at hx ⊢
    obtain ⟨c, q1, q2⟩ := hx
    exact ⟨c, (ik hk h c q1).1, q2⟩
   ·obtain ⟨h1, h2⟩ := bcT.1 h
    obtain ⟨h2, h3⟩ := bcT.1 h2
    rename_i f x y g x' y'
    simp only [VRel] at hx ⊢
    obtain ⟨f', xs, ys, q1, q0, q2, q3⟩ := hx
    exact ⟨f', xs, ys, q1, ba6 hk h1 q0, md ih h2 q2, md ih h3 q3⟩
   ·obtain ⟨h1, h2⟩ := bcT.1 h
    have h1 := zW h1
    subst h1
    simp only [VRel] at hx ⊢
    obtain ⟨v, e, q⟩ := hx
    exact ⟨v, e, ih _ _ _ h2 q⟩
   ·simp only [VRel] at hx ⊢; obtain ⟨ys, e, q⟩ := hx; exact ⟨ys, e, md ih h q⟩
   ·simp only [VRel] at hx ⊢; obtain ⟨ys, e, q⟩ := hx; exact ⟨ys, e, md ih h q⟩
   ·simp only [zU] at h
    obtain ⟨⟨h1, h2⟩, h3⟩ := h
    have h1 := (gd _ _).1 h1
    have h2 := kh hE h2
    have h3 := ko h3
    subst h1 h3
    simp only [VRel] at hx ⊢
    exact ⟨SAll.nil, by rw [hx.2, h2]⟩
   ·simp only [zU] at h
    obtain ⟨⟨h1, h2⟩, h3⟩ := h
    have h1 := (gd _ _).1 h1
    have h2 := kh hE h2
    have h3 := ko h3
    subst h1 h3
    simp only [SE.eval] at h2
    simp only [VRel] at hx ⊢
    exact ⟨SAll.nil, by rw [hx, h2]⟩
   ·simp only [zU] at h
    obtain ⟨h1, h2⟩ := h
    have h1 := qw hE h1
    have h2 := ko h2
    subst h2
    simp only [VRel, GVRel] at hx ⊢
    exact ⟨SAll.nil, by rw [← h1]; exact hx.2⟩
   ·simp only [zU] at h
    obtain ⟨⟨h0, h1⟩, h2⟩ := h
    have h1 := qw hE h1
    have h2 := ko h2
    subst h2
    simp only [GE.eval] at h1
    simp only [VRel, GVRel] at hx ⊢
    refine ⟨SAll.nil, ?_, ?_⟩
    ·rw [← h1, na]; exact hx.2
    ·rw [← h1]; exact mb _
   ·simp only [zU] at h
    obtain ⟨⟨⟨h1, h2⟩, h3⟩, h4⟩ := h
    have h2 := zW h2
    have h3 := kh hE h3
    have h4 := ko h4
    subst h2 h4
    simp only [VRel, GVRel] at hx ⊢
    obtain ⟨_, c, cap', q1, q2, q3, q4, q5⟩ := hx
    exact ⟨SAll.nil, c, cap', (ik hk h1 c q1).1, by rw [← h3]; exact q2, by rw [← h3]; exact q3, by rw [(ik hk h1 c q1).2]; exact q4, by rw [← h3]; exact q5⟩
   ·simp only [zU] at h
    obtain ⟨⟨⟨⟨h1, h2⟩, h3⟩, h5⟩, h4⟩ := h
    have h2 := zW h2
    have h5 := zW h5
    have h3 := kh hE h3
    have h4 := ko h4
    subst h2 h4 h5
    simp only [VRel, GVRel] at hx ⊢
    obtain ⟨_, c, q1, q2, q3⟩ := hx
    exact ⟨SAll.nil, c, (ik hk h1 c q1).1, by rw [← h3]; exact q2, by rw [← h3]; exact q3⟩
   ·simp only [zU] at h
    obtain ⟨⟨⟨h1, h2⟩, h3⟩, h4⟩ := h
    have h2 := kh hE h2
    have h3 := kh hE h3
    have h4 := ko h4
    subst h4
    simp only [VRel, GVRel] at hx ⊢
    obtain ⟨_, c, cap', q1, q2, q3, q5⟩ := hx
    exact ⟨SAll.nil, c, cap', (ik hk h1 c q1).1, by rw [← h3]; exact q2, by rw [← h3]; exact q3, by rw [← h3, ← h2]; exact q5⟩
   ·simp only [zU] at h
    obtain ⟨⟨⟨h1, h2⟩, h3⟩, h4⟩ := h
    have h2 := kh hE h2
    have h3 := kh hE h3
    have h4 := ko h4
    subst h4
    simp only [VRel, GVRel] at hx ⊢
    obtain ⟨_, c, q1, q2, q3⟩ := hx
    exact ⟨SAll.nil, c, (ik hk h1 c q1).1, by rw [← h3]; exact q2, by rw [← h3, ← h2]; exact q3⟩
   ·obtain ⟨h1, h2⟩ := bcT.1 h
    rw [← asg _ _ h2]
    exact a3a h1 hx
theorem ai6 {f : AV → AV → Bool} (hf : ∀ a b x, f a b = true → VRel ρ1 a x → VRel ρ2 b x) : ∀ {l m : List (AV × AV)} {ms : List MapEntry}, an3 f l m = true → ERel ρ1 l ms → ERel ρ2 m ms
 | [], [], _, _, h => h
 | [], _ :: _, _, h, _ => by cases h
 | _ :: _, [], _, h, _ => by cases h
 | a :: l, b :: m, _, h, ⟨x, xs, q1, q2, q3, q4⟩ => by
   simp only [an3] at h
   obtain ⟨h1, h2⟩ := bcT.1 h
   obtain ⟨h2, h3⟩ := bcT.1 h2
   exact ⟨x, xs, q1, hf _ _ _ h1 q2, hf _ _ _ h2 q3, ai6 hf h3 q4⟩
theorem a9n {t : TypeId} {ks : List IntKind} {n n' : SE} {g g' : GE} {y : Option Obj} (h1 : n'.eval Gv.σ = n.eval Gv.σ) (h2 : g'.eval Gv.σ = g.eval Gv.σ) (h : GORel (.gh t ks n' g') y) : GORel (.gh t ks n g) y := by
 simp only [GORel] at h ⊢
 rw [h1] at h
 revert h
 generalize hx : GE.eval Gv.σ g' = x
 rw [h2] at hx
 subst hx
 exact id
theorem aqx (hE : E.all Gv.σ) (hk : ∀ k k', κ k = some k' → jp ρ1 ρ2 k k') {arr : Array Value} {e : SE} {t : TypeId} {k : K} : ∀ {ps' : List GP}, GPs ρ1 arr ps' → awk κ E e t k ps' = true → 0 ≤ e.eval Gv.σ ∧ ∃ c, ρ2 k = some c ∧ arr[(e.eval Gv.σ).toNat]? = some (.iface t (.pointer (some ⟨c, 0, none⟩)))
 | [], _, h => by cases h
 | .mk e' t' k' :: l, hp, h => by
   simp only [awk, ac] at h
   split at h
   ·rename_i q
    simp only [zU] at q
    obtain ⟨⟨q1, q2⟩, q3⟩ := q
    have q1 := kh hE q1
    have q2 := zW q2
    subst q2
    obtain ⟨h0, c, h1, h2⟩ := hp _ _ _ (List.mem_cons_self ..)
    rw [q1] at h0 h2
    exact ⟨h0, c, (ik hk q3 c h1).1, h2⟩
   ·exact aqx hE hk (fun e t k hm => hp e t k (zA _ hm)) h
theorem ah6 (hE : E.all Gv.σ) (hk : ∀ k k', κ k = some k' → jp ρ1 ρ2 k k') {arr : Array Value} {ps' : List GP} (hp : GPs ρ1 arr ps') : ∀ {ps : List GP}, am8 κ E ps' ps = true → GPs ρ2 arr ps
 | [], _, _, _, _, hm => by cases hm
 | .mk e' t' k' :: ps, h, e, t, k, hm => by
   simp only [am8] at h
   obtain ⟨h1, h2⟩ := bcT.1 h
   rcases List.mem_cons.1 hm with q | q
   ·injection q with q1 q2 q3
    subst q1 q2 q3
    exact aqx hE hk hp h1
   ·exact ah6 hE hk hp h2 e t k q
theorem a7u (hE : E.all Gv.σ) (hk : ∀ k k', κ k = some k' → jp ρ1 ρ2 k k') {o : LO} {x : AObj} (h : loR κ E o x = true) : x ≠ .none ∧ x.isRo = (bu o).isRo ∧ ∀ y, ORel ρ1 x y → ORel ρ2 (bu o) y := by
 unfold loR at h
 split at h
 ·rename_i ro t n g ps ro' t' n' g' ps'
  simp only [zU] at h
  obtain ⟨⟨⟨⟨h1, h2⟩, h3⟩, h4⟩, h5⟩ := h
  have h1 := abe h1
  have h2 := zW h2
  have h3 := kh hE h3
  have h4 := qw hE h4
  subst h1 h2
  refine ⟨by simp, rfl, fun y hy => ?_⟩
  obtain ⟨arr, fz, e1, e2, e3, e4, e5, e6, e7⟩ := hy
  rw [h3] at e3 e4 e5
  revert e4 e6
  generalize hX : GE.eval Gv.σ g' = X
  rw [h4] at hX
  subst hX
  intro e4 e6
  exact ⟨arr, fz, e1, e2, e3, e4, e5, e6, ah6 hE hk e7 h5⟩
 ·rename_i fn nt id l ps kd fn' nt' τ ps' x y kd'
  simp only [zU] at h
  obtain ⟨⟨⟨⟨⟨⟨⟨h1, h2⟩, h3⟩, h4⟩, h5⟩, h6⟩, h7⟩, h8⟩ := h
  have h1 := zW h1
  have h2 := zW h2
  have h3 := adw h3
  have h5 := zW h5
  have h7 := zW h7
  subst h1 h2 h3
  rw [ax] at h7
  refine ⟨by simp, rfl, fun y0 hy => ?_⟩
  obtain ⟨tmps, c, e1, e2, e3, e4, e5, g, e6⟩ := hy
  obtain ⟨r1, r2⟩ := aje h6 e6 h5
  subst r1 r2
  have hs := ot e5 nt 0 (by omega)
  rw [List.drop_zero] at hs
  exact ⟨tmps, c, e1, (ik hk h4 c e2).1, e3, e4, (qo (by omega) (by omega)).2 (md (lu hE hk 8) h8 hs), g, e6⟩
 ·rename_i t e fl fh l t' s e' fl' fh' c
  simp only [zU] at h
  obtain ⟨⟨⟨⟨⟨⟨h1, h2⟩, h3⟩, h4⟩, h5⟩, h6⟩, h7⟩ := h
  refine ⟨by simp, rfl, fun y hy => ?_⟩
  obtain ⟨arr, fz, e1, e2, e3, e4, e5, e6⟩ := hy
  have h1 := zW h1
  have h2 := abe h2
  have h3 := zW h3
  have h4 := zW h4
  have h5 := zW h5
  have h6 := zE h6
  subst h1 h2 h3 h4
  obtain ⟨g1, g2⟩ := anl h7
  rw [ax] at h5
  have hcap := gx l.length (by omega)
  refine ⟨arr, fz, e1, by rw [ax]; omega, fun q => by rw [ax, ← h5]; exact e3 q, by rw [ax, fw]; exact hcap, e5, ?_⟩
  intro i hi
  rw [ax] at hi
  obtain ⟨v, q1, q2⟩ := e6 i (by omega)
  refine ⟨v, q1, ?_⟩
  rw [ax, ig l 0 _ i (by omega) (by omega), dif_pos ⟨Nat.zero_le _, by omega⟩]
  have hil : i < (nf c s 0).length := by rw [g1]; omega
  have := g2 i hil (by omega)
  refine lu hE hk 8 _ _ _ this ?_
  simpa [xh] using q2
 ·rename_i es es'
  refine ⟨by simp, rfl, fun y hy => ?_⟩
  obtain ⟨a, b, h1, h2⟩ := hy
  exact ⟨a, b, h1, ai6 (lu hE hk 8) h h2⟩
 ·rename_i t ks n g t' ks' n' g'
  simp only [zU] at h
  obtain ⟨⟨⟨h1, h2⟩, h3⟩, h4⟩ := h
  have h1 := zW h1
  have h2 := ank h2
  subst h1 h2
  exact ⟨by simp, rfl, fun y hy => a9n (kh hE h3) (qw hE h4) hy⟩
 ·rename_i m m'
  refine ⟨by simp, rfl, fun y hy => ?_⟩
  show GORel (.gmap m) y
  have hy : GORel (.gmap m') y := hy
  simp only [GORel] at hy ⊢
  rw [← qw hE h]; exact hy
 ·rename_i g p A g' p' A'
  simp only [zU] at h
  obtain ⟨⟨h1, h2⟩, h3⟩ := h
  have h3 := ko h3
  subst h3
  refine ⟨by simp, rfl, fun y hy => ?_⟩
  show GORel (.iter g p []) y
  have hy : GORel (.iter g' p' A') y := hy
  simp only [GORel] at hy ⊢
  rw [← qw hE h1, ← kh hE h2]; exact ⟨SAll.nil, hy.2⟩
 ·rename_i t t' ks n g
  have h := zW h
  subst h
  refine ⟨by simp, rfl, fun y hy => ?_⟩
  show GORel (.junk t) y
  have hy : GORel (.gh t ks n g) y := hy
  simp only [GORel] at hy ⊢
  obtain ⟨arr, fz, h1, h2, _⟩ := hy
  exact ⟨arr, fz, h1, h2⟩
 ·exact ⟨by simp, rfl, fun y hy => hy⟩
 ·rename_i o n g o' n' g'
  simp only [zU] at h
  obtain ⟨⟨h1, h2⟩, h3⟩ := h
  have h1 := kh hE h1
  have h2 := kh hE h2
  have h3 := qw hE h3
  refine ⟨by simp, rfl, fun y hy => ?_⟩
  show GORel (.rh o n g) y
  have hy : GORel (.rh o' n' g') y := hy
  simp only [GORel] at hy ⊢
  rw [h1, h2] at hy
  revert hy
  generalize hx : GE.eval Gv.σ g' = x
  rw [h3] at hx
  subst hx
  exact id
 ·rename_i o n g o' n' g'
  simp only [zU] at h
  obtain ⟨⟨h1, h2⟩, h3⟩ := h
  have h1 := kh hE h1
  have h2 := kh hE h2
  have h3 := qw hE h3
  refine ⟨by simp, rfl, fun y hy => ?_⟩
  show GORel (.rb o n g) y
  have hy : GORel (.rb o' n' g') y := hy
  simp only [GORel] at hy ⊢
  rw [h1, h2] at hy
  revert hy
  generalize hx : GE.eval Gv.σ g' = x
  rw [h3] at hx
  subst hx
  exact id
 ·rename_i t ks n g t' s e fl fh c
  rw [ac] at h
  split at h
  ·rename_i h0
   obtain ⟨h1, h2, h3⟩ := xr (A0 := []) SAll.nil h0
   exact ⟨h1, h2, fun y hy => h3 ρ1 y hy⟩
  ·simp only [zU] at h
   obtain ⟨⟨h0, q1⟩, q2⟩ := h
   obtain ⟨h1, h2, h3⟩ := xr (A0 := []) SAll.nil h0
   exact ⟨h1, rfl, fun y hy => a9n (kh hE q1) (qw hE q2) (h3 ρ1 y hy)⟩
 ·rename_i m es
  split at h <;> try (cases h; done)
  rename_i g hg
  rw [zU] at h
  obtain ⟨h0, q1⟩ := h
  obtain ⟨h1, h2, h3⟩ := xr (A0 := []) SAll.nil h0
  refine ⟨h1, h2, fun y hy => ?_⟩
  have q := h3 ρ1 y hy
  show GORel (.gmap m) y
  have q : GORel (.gmap g) y := q
  simp only [GORel] at q ⊢
  rw [← qw hE q1]; exact q
 ·obtain ⟨h1, h2, h3⟩ := xr (A0 := []) SAll.nil h
  exact ⟨h1, h2, fun y hy => h3 ρ1 y hy⟩
 ·cases h
theorem bbi (hE : E.all Gv.σ) {o : LO} {x : AObj} {kd : Nat} {g : GE} (h : loR κ E o x = true) (ho : bi (bu o) = some (kd, g)) : ∃ g', bi x = some (kd, g') ∧ g.eval Gv.σ = g'.eval Gv.σ := by
 cases o with
 | gob o =>
   cases o <;> first | (cases ho; done) | skip
   injection ho with ho
   injection ho with e1 e2
   subst e1 e2
   cases x <;> first | (cases h; done) | skip
   rename_i o'
   cases o' <;> first | (cases h; done) | skip
   rename_i k' g'
   have h : (Nat.beq _ k' && eqG E g' _) = true := h
   rw [zU] at h
   have := zW h.1
   subst this
   exact ⟨_, rfl, (qw hE h.2).symm⟩
 | _ => cases ho
theorem aob {Lo : List HO} {T0 : List (Nat × Nat)} {nxi nxo : Nat} : ∀ {T : List (Nat × Nat)}, tabOk Lo T0 nxi nxo T = true → ∀ s t, (s, t) ∈ T → (256 ≤ s ∧ (nxi ≤ s ∨ wx s Lo = false)) ∧ s < 65536 ∧ nxi ≤ t ∧ t < nxo ∧ jk T0 s = some t ∧ jk (ajw T0) t = some s
 | [], _, _, _, h => by cases h
 | p :: l, h, s, t, hm => by
   simp only [tabOk] at h
   obtain ⟨h1, h2⟩ := bcT.1 h
   rcases List.mem_cons.1 hm with e | e
   ·subst e
    simp only [zU] at h1
    obtain ⟨⟨⟨⟨⟨⟨q0, q1⟩, q2⟩, q3⟩, q4⟩, q5⟩, q6⟩ := h1
    rw [Bool.or_eq_true] at q1
    have opt : ∀ {o : Option Nat} {b : Nat}, tabOk.optIs o b = true → o = some b := by
     intro o b h
     cases o with
     | none => cases h
     | some a => rw [zW h]
    exact ⟨⟨zE q0, q1.imp zE (fun h => by cases hk : wx s Lo <;> simp_all [ac6])⟩, zE q2, zE q3, zE q4, opt q5, opt q6⟩
   ·exact aob h2 s t e
theorem adk : ∀ {L : List (Nat × Nat)} {k m : Nat}, jk L k = some m → (k, m) ∈ L
 | [], _, _, h => by cases h
 | p :: l, k, m, h => by
   simp only [jk, ac] at h
   split at h
   ·rename_i h1
    injection h with h
    rw [← zW h1, ← h]
    exact List.mem_cons_self ..
   ·exact zA _ (adk h)
theorem asq : ∀ {L : List (Nat × Nat)} {k m : Nat}, (k, m) ∈ ajw L → (m, k) ∈ L
 | [], _, _, h => by cases h
 | p :: l, k, m, h => by
   simp only [ajw] at h
   rcases List.mem_cons.1 h with e | e
   ·injection e with e1 e2
    subst e1 e2
    exact List.mem_cons_self ..
   ·exact zA _ (asq e)
theorem yv {T : List (Nat × Nat)} {E : EqL} {nxi : Nat} {w : W} : ∀ {L : List HO}, aq4 T E nxi w L = true → ∀ n o, HO.mk n o ∈ L → ∃ s, lb T nxi n = some s ∧ s < 65536 ∧ n < 65536 ∧ loR (py T nxi) E o (eo (K.of s) w) = true
 | [], _, _, _, h => by cases h
 | .mk k p :: L, h, n, o, hm => by
   simp only [aq4] at h
   obtain ⟨h1, h2⟩ := bcT.1 h
   rcases List.mem_cons.1 hm with e | e
   ·injection e with e1 e2
    subst e1 e2
    split at h1
    ·rename_i s hs
     obtain ⟨h3, h4⟩ := bcT.1 h1
     simp only [zU] at h3
     exact ⟨s, hs, zE h3.1, zE h3.2, h4⟩
    ·cases h1
   ·exact yv h2 n o e
noncomputable def tu (ρ1 : Env) (T : List (Nat × Nat)) (nxi : Nat) : Env where
 blk k := match lb T nxi k.num with
  | some s => ρ1 (K.of s)
  | none => none
 sz k := match lb T nxi k.num with
  | some s => ρ1.sz (K.of s)
  | none => 0
 ft k := match lb T nxi k.num with
  | some s => ρ1.ft (K.of s)
  | none => fun _ => False
theorem a8b {ρ : Env} {a a1 : W} {w w1 : World} {T : List (Nat × Nat)} {nxi nxo : Nat} {Lo : List HO} (hc : Clean ρ a) (hnx : a.nx.num = nxi) (hE : E.all Gv.σ) (b1 : 256 ≤ nxi) (b2 : nxi ≤ nxo) (b3 : nxo ≤ 65535)
  (hT : tabOk Lo T nxi nxo T = true) (hl : rf laidL a1 = true) (hh : aq4 T E nxi a1 Lo = true) (hA : Adv ρ a w ρ1 a1 w1) :
  ∃ ρ2, Adv ρ a w ρ2 (ag Lo nxo) w1 ∧ ∀ k k', py T nxi k = some k' → jp ρ1 ρ2 k k' := by
 have n3 : (ag Lo nxo).nx.num = nxo := bw (by omega)
 have src_low : ∀ {k : Nat}, k < nxi → lb T nxi k = some k := by
  intro k h
  simp only [lb, ac]
  rw [if_pos (show Nat.blt k nxi = true from Nat.ble_eq_true_of_le h)]
 have src_high : ∀ {k : Nat}, nxi ≤ k → lb T nxi k = jk (ajw T) k := by
  intro k h
  simp only [lb, ac]
  rw [if_neg (by simp [Nat.blt]; omega)]
 have src_tab : ∀ {k s : Nat}, nxi ≤ k → lb T nxi k = some s → (256 ≤ s ∧ (nxi ≤ s ∨ wx s Lo = false)) ∧ s < 65536 ∧ k < nxo ∧ jk T s = some k := by
  intro k s h e
  rw [src_high h] at e
  obtain ⟨q1, q2, q3, q4, q5, q6⟩ := aob hT s k (asq (adk e))
  exact ⟨q1, q2, q4, q5⟩
 have here : ∀ k : K, aa k (ab Lo) ≠ .none → k.num ≤ 255 ∨ wx k.num Lo = true := by
  intro k hk
  rcases iu k Lo hk with ⟨n, o, q1, q2, q3⟩ | ⟨g, cs, q1, q2, q3⟩
  ·obtain ⟨s, s1, s2, s3, s4⟩ := yv hh n o q1
   subst q2
   rw [bw s3]
   exact .inr (keyIn_iff.2 ⟨o, q1⟩)
  ·subst q2
   obtain ⟨f1, f2, f3⟩ := ju _ je g cs q1
   rw [bw (by omega)]
   exact .inl f1
 have src_inj : ∀ {k l s : Nat}, (k ≤ 255 ∨ wx k Lo = true) → (l ≤ 255 ∨ wx l Lo = true) → lb T nxi k = some s → lb T nxi l = some s → k = l := by
  intro k l s hik hil h1 h2
  by_cases hk : k < nxi <;> by_cases hl : l < nxi
  ·rw [src_low hk] at h1; rw [src_low hl] at h2
   injection h1 with h1; injection h2 with h2; omega
  ·rw [src_low hk] at h1; injection h1 with h1
   subst h1
   obtain ⟨⟨z1, z2⟩, _⟩ := src_tab (by omega) h2
   rcases z2 with z2 | z2
   ·omega
   ·rcases hik with z | z
    ·omega
    ·rw [z] at z2; cases z2
  ·rw [src_low hl] at h2; injection h2 with h2
   subst h2
   obtain ⟨⟨z1, z2⟩, _⟩ := src_tab (by omega) h1
   rcases z2 with z2 | z2
   ·omega
   ·rcases hil with z | z
    ·omega
    ·rw [z] at z2; cases z2
  ·have := (src_tab (by omega) h1).2.2.2
   rw [(src_tab (by omega) h2).2.2.2] at this
   injection this with this; exact this.symm
 have blk : ∀ {k : K} {s : Nat}, lb T nxi k.num = some s → (tu ρ1 T nxi) k = ρ1 (K.of s) ∧ (tu ρ1 T nxi).sz k = ρ1.sz (K.of s) := by
  intro k s h
  constructor
  ·show (match lb T nxi k.num with | some s => ρ1 (K.of s) | none => none) = _
   rw [h]
  ·show (match lb T nxi k.num with | some s => ρ1.sz (K.of s) | none => 0) = _
   rw [h]
 have blk0 : ∀ {k : K}, lb T nxi k.num = none → (tu ρ1 T nxi) k = none := by
  intro k h
  show (match lb T nxi k.num with | some s => ρ1 (K.of s) | none => none) = _
  rw [h]
 have low : ∀ {k : K}, k.num < nxi → (tu ρ1 T nxi) k = ρ1 k ∧ (tu ρ1 T nxi).sz k = ρ1.sz k := by
  intro k h
  have := blk (src_low h)
  rw [ady] at this
  exact this
 have hkey : ∀ k k', py T nxi k = some k' → jp ρ1 (tu ρ1 T nxi) k k' := by
  intro k k' h
  unfold py at h
  split at h
  ·rename_i m hm
   injection h with h
   subst h
   obtain ⟨q1, q2, q3, q4, q5, q6⟩ := aob hT _ _ (adk hm)
   have e : (K.of m).num = m := bw (by omega)
   have := blk (k := K.of m) (s := k.num) (by rw [e, src_high q3]; exact q6)
   rw [ady] at this
   exact fun c hc => ⟨by rw [this.1]; exact hc, this.2⟩
  ·rw [ac] at h
   split at h
   ·rename_i h1
    injection h with h
    subst h
    have := low (k := k) (zE h1)
    exact fun c hc => ⟨by rw [this.1]; exact hc, this.2⟩
   ·cases h
 refine ⟨tu ρ1 T nxi, ?_, hkey⟩
 have at_src : ∀ k, aa k (ab Lo) ≠ .none → ∃ s, lb T nxi k.num = some s ∧ aa (K.of s) a1.h ≠ .none ∧ (aa k (ab Lo)).isRo = (aa (K.of s) a1.h).isRo ∧ ∀ y, ORel ρ1 (aa (K.of s) a1.h) y → ORel (tu ρ1 T nxi) (aa k (ab Lo)) y := by
  intro k hk
  rcases iu k Lo hk with ⟨n, o, q1, q2, q3⟩ | ⟨g, cs, q1, q2, q3⟩
  ·obtain ⟨s, s1, s2, s3, s4⟩ := yv hh n o q1
   subst q2
   rw [bj] at s4
   obtain ⟨r1, r2, r3⟩ := a7u hE hkey s4
   rw [bw s3, q3]
   exact ⟨s, s1, r1, by rw [r2], r3⟩
  ·subst q2
   obtain ⟨f1, f2, f3⟩ := ju _ je g cs q1
   obtain ⟨n, c, r1⟩ := aaq hl g cs q1
   rw [bj] at r1
   have eg : (K.of g).num = g := bw (by omega)
   refine ⟨g, by rw [eg]; exact src_low (by omega), by rw [r1]; simp, by rw [q3, r1]; rfl, fun y hy => ?_⟩
   rw [r1] at hy
   rw [q3]
   obtain ⟨arr, t', fz, e1, e2, e3, e4, e5⟩ := hy
   have hv := e5 g cs rfl q1
   have hlen := VRels.length _ _ (hv ρ1)
   rw [ax]
   refine ⟨arr, t', fz, e1, by simpa using hlen, by rw [fw]; exact gx _ f3, fun i hi => ?_, e5⟩
   obtain ⟨v, s1, s2⟩ := ub (hv (tu ρ1 T nxi)) f3 i hi
   exact ⟨v, by simpa using s1, s2⟩
 have src_lt : ∀ {k : K} {s : Nat}, lb T nxi k.num = some s → s < 65536 := by
  intro k s h
  by_cases hk : k.num < nxi
  ·rw [src_low hk] at h; injection h with h; omega
  ·exact (src_tab (by omega) h).2.1
 have ftS : ∀ {k : K} {s : Nat}, lb T nxi k.num = some s → (tu ρ1 T nxi).ft k = ρ1.ft (K.of s) := by
  intro k s h
  show (match lb T nxi k.num with | some s => ρ1.ft (K.of s) | none => fun _ => False) = _
  rw [h]
 have ghS : ∀ k, bi (aa k (ab Lo)) ≠ none → ∃ s kd g g', lb T nxi k.num = some s ∧ bi (aa k (ab Lo)) = some (kd, g) ∧ bi (aa (K.of s) a1.h) = some (kd, g') ∧ g.eval Gv.σ = g'.eval Gv.σ := by
  intro k hk
  rcases iu k Lo (db hk) with ⟨n, o, q1, q2, q3⟩ | ⟨g, cs, q1, q2, q3⟩
  ·obtain ⟨s, s1, s2, s3, s4⟩ := yv hh n o q1
   subst q2
   rw [bj] at s4
   rw [q3] at hk ⊢
   obtain ⟨⟨kd, g⟩, hg⟩ := Option.ne_none_iff_exists'.1 hk
   obtain ⟨g', h1, h2⟩ := bbi hE s4 hg
   exact ⟨s, kd, g, g', by rw [bw s3]; exact s1, hg, h1, h2⟩
  ·rw [q3] at hk; exact absurd rfl hk
 refine ⟨⟨?_, ?_, ?_, ?_⟩, ?_, ?_, ?_, hA.size, ?_, ?_, hA.frame, ?_, hA.os, hA.tape, hA.output⟩
 ·intro k l hk hl' e
  obtain ⟨s, s1, s2, s3, s4⟩ := at_src k hk
  obtain ⟨t, t1, t2, t3, t4⟩ := at_src l hl'
  rw [(blk s1).1, (blk t1).1] at e
  rcases hA.rel.inj _ _ s2 t2 e with q | ⟨q, r⟩
  ·have := congrArg K.num q
   rw [bw (src_lt s1), bw (src_lt t1)] at this
   subst this
   exact .inl (K.num_inj (src_inj (here k hk) (here l hl') s1 t1))
  ·exact .inr ⟨s3.trans q, t3.trans r⟩
 ·intro k hk
  obtain ⟨s, s1, s2, s3, s4⟩ := at_src k hk
  obtain ⟨c, h1, h2⟩ := hA.rel.dom _ s2
  exact ⟨c, by rw [(blk s1).1]; exact h1, s4 _ h2⟩
 ·intro k c arr t fz hk hc' hx
  obtain ⟨s, s1, s2, s3, s4⟩ := at_src k hk
  rw [(blk s1).1] at hc'
  rw [(blk s1).2]
  exact hA.rel.len _ c arr t fz s2 hc' hx
 ·intro k kd g hk
  have hk : bi (aa k (ab Lo)) = some (kd, g) := hk
  obtain ⟨s, kd', g1, g', s1, e1, e2, e3⟩ := ghS k (ss hk)
  rw [hk] at e1
  injection e1 with e1
  injection e1 with e1 e1'
  subst e1 e1'
  have q := hA.rel.gho (K.of s) kd g' e2
  have hk0 := here k (db (ss hk))
  refine ⟨?_, ?_, ?_, ?_, ?_⟩
  ·intro c hcc; rw [(blk s1).1] at hcc; rw [ftS s1]; exact q.root c hcc
  ·intro c hcc; rw [(blk s1).1] at hcc; rw [ftS s1, e3]; exact q.rel c hcc
  ·rw [ftS s1]; exact q.lt
  ·intro l hl' hlk c hcc
   obtain ⟨t, t1, t2, t3, t4⟩ := at_src l hl'
   rw [(blk t1).1] at hcc
   rw [ftS s1]
   refine q.sep (K.of t) t2 (fun e => hlk ?_) c hcc
   have := congrArg K.num e
   rw [bw (src_lt t1), bw (src_lt s1)] at this
   subst this
   exact K.num_inj (src_inj (here l hl') hk0 t1 s1)
  ·intro l hl' hlk c hcf
   have hl' : bi (aa l (ab Lo)) ≠ none := hl'
   obtain ⟨t, _, _, g2, t1, _, f2, _⟩ := ghS l hl'
   rw [ftS t1] at hcf
   rw [ftS s1]
   refine q.dis (K.of t) (by rw [f2]; simp) (fun e => hlk ?_) c hcf
   have := congrArg K.num e
   rw [bw (src_lt t1), bw (src_lt s1)] at this
   subst this
   exact K.num_inj (src_inj (here l (db hl')) hk0 t1 s1)
 ·intro k c hk
  have hlt : k.num < nxi := by
   apply Classical.byContradiction
   intro hn
   rw [hc k (by omega)] at hk
   cases hk
  rw [(low hlt).1, (low hlt).2]
  exact hA.le k c hk
 ·intro k
  by_cases hlt : k.num < nxi
  ·rw [(low hlt).1]
   rcases hA.rng k with e | e
   ·exact .inl e
   ·omega
  ·cases hs : lb T nxi k.num with
   | none => exact .inl (by rw [blk0 hs, hc k (by omega)])
   | some s => exact .inr ⟨by omega, by rw [n3]; exact (src_tab (by omega) hs).2.2.1⟩
 ·rw [n3]; omega
 ·rintro c ⟨k, hk, hr, hkc⟩
  obtain ⟨s, s1, s2, s3, s4⟩ := at_src k hk
  refine hA.own c ⟨_, s2, by rw [← s3]; exact hr, ?_⟩
  rcases hkc with hkc | ⟨h1, h2⟩
  ·rw [(blk s1).1] at hkc; exact .inl hkc
  ·obtain ⟨t, _, _, g2, t1, _, f2, _⟩ := ghS k h1
   rw [s1] at t1
   injection t1 with t1
   subst t1
   rw [ftS s1] at h2
   exact .inr ⟨by rw [f2]; simp, h2⟩
 ·intro k c hk hkc
  obtain ⟨s, s1, s2, s3, s4⟩ := at_src k hk
  rw [(blk s1).1] at hkc
  exact hA.keep _ c s2 hkc
 ·intro k hk hl
  rw [hnx] at hk
  have q := hA.fts k (by rw [hnx]; exact hk) hl
  have e := src_low hk
  refine ⟨by rw [ftS e, ady]; exact q.1, ?_⟩
  by_cases hg : bi (aa k (ab Lo)) = none
  ·exact hg
  ·obtain ⟨t, _, _, g2, t1, _, f2, _⟩ := ghS k hg
   rw [e] at t1
   injection t1 with t1
   subst t1
   rw [ady, q.2] at f2
   cases f2
end
end Go.Ev
set_option maxRecDepth 100000
set_option linter.all false
namespace Go.Ev
noncomputable section
def fp : Code → List Code
 | .seq a b => fp a ++ fp b
 | .cond _ a b => fp a ++ fp b
 | .block _ a => fp a
 | .loop b => b :: fp b
 | _ => []
def xy (k : Nat) : List Code → List Code
 | [] => []
 | c :: l => bc (Nat.beq (mi c) k) (c :: xy k l) (xy k l)
def bbx : List Code → Option Code
 | [c] => some c
 | _ => none
def v7 (f k : Nat) : Option Code := match vf f with
 | some b => bbx (xy k (fp b.2))
 | none => none
def ve (f k : Nat) : Code := match v7 f k with
 | some b => b
 | none => .skip
inductive LR where
 | x (id : Nat) (us : List AV)
 | r (us : List AV)
 | p (ch : List PE) (us : List AV)
inductive LT where
 | mk (f k : Nat) (us : List AV) (nxi : Nat) (Li : List HO) (A : List SA) (bd : Option (SE × SE)) (r : LR) (nxo : Nat) (Lo : List HO)
def acf : LR → List AV
 | .x _ us => us
 | .r us => us
 | .p _ us => us
def ars (f : AV → AV) : LR → LR
 | .x id us => .x id (shL f us)
 | .r us => .r (shL f us)
 | .p ch us => .p (aw7 f ch) (shL f us)
def rOf (r : LR) (um : UM) (w : W) : R := match r with
 | .x id us => .x id (.mk (j8 us 0 jv) [] um w)
 | .r us => .r (.mk (j8 us 0 jv) [] um w)
 | .p ch us => .p ch (.mk (j8 us 0 jv) [] um w)
def aw8 (o : Option Nat) : Option R := match o with
 | some m => some (.no m 0)
 | none => none
def a36 (us : List AV) (nxi : Nat) (Li : List HO) (A : List SA) (bd : Option (SE × SE)) (r : LR) (nxo : Nat) (Lo : List HO) (vs : List AV) (um : UM) (w : W) (nx : Nat) (KL : List (Nat × Nat)) (θ : Nat → GE) (A0 : List SA) (Li' Lo' : List HO) : Option R :=
 bc (a08 vs us nxi nxo nx KL θ A A0 Li Lo Li' Lo' w && a1y bd θ A0) (some (rOf (ars (ec (dz KL nxi nx) θ A0 8) r) um (.mk (w7 Lo' (re Li' (hOf w))) (K.of (nx + (nxo - nxi)))))) (aw8 (a4g (a5l vs us nxi nxo nx KL θ A0 Li Lo Li' Lo' w) (ant bd θ A A0)))
def a39 (us : List AV) (nxi : Nat) (Li : List HO) (A : List SA) (bd : Option (SE × SE)) (r : LR) (nxo : Nat) (Lo : List HO) (vs : List AV) (um : UM) (w : W) (M : MT) (A0 : List SA) : Option R :=
 bc (auk (thM M)) (a36 us nxi Li A bd r nxo Lo vs um w (wnx w).num (aij M) (afg M) A0 (ci (dz (aij M) nxi (wnx w).num) (afg M) A0 Li) (ci (dz (aij M) nxi (wnx w).num) (afg M) A0 Lo)) none
end
section
variable [Gv]
def av3 (ρ : Env) (aw : W) (w : World) (cs : List Frame) (r : LR) (aw' : W) (e : Exit) (a' : Act) (cs' : List Frame) (w' : World) : Prop := cs' = cs ∧ a'.defers = [] ∧ ∃ ρ', Adv ρ aw w ρ' aw' w' ∧ match r with
 | .x id us => e = .exit id ∧ VRels ρ' us a'.tmps.toList
 | .r us => e = .ret ∧ VRels ρ' us a'.tmps.toList
 | .p ch us => ∃ ch', e = .panic ch' ∧ ChRel ρ' ch ch' ∧ VRels ρ' us a'.tmps.toList
def tm (f k : Nat) (us : List AV) (nxi : Nat) (Li : List HO) (r : LR) (nxo : Nat) (Lo : List HO) : Prop :=
 ∀ b, v7 f k = some b → ∀ (ρ : Env) (a : Act) (cs : List Frame) (w : World), GRel ρ → WRel ρ (ag Li nxi) w → Clean ρ (ag Li nxi) → us.length ≤ 512 → VRels ρ us a.tmps.toList → a.defers = [] →
  WS false none f PP (.loop b) (av3 ρ (ag Li nxi) w cs r (ag Lo nxo)) a cs w ∧ WL false none f PP b (av3 ρ (ag Li nxi) w cs r (ag Lo nxo)) a cs w
def jd : LT → Prop
 | .mk f k us nxi Li A bd r nxo Lo => ∀ σ : Nat → List Int, σ 99 = Gv.σ 99 → SAll σ A → afl σ bd → @tm ⟨σ⟩ f k us nxi Li r nxo Lo
theorem km : ∀ (x b : Code), b ∈ fp x → CSub (.loop b) x
 | .seq x y, b, h => by
   simp only [fp, List.mem_append] at h
   rcases h with h | h
   ·exact sub_up (km x b h) (.seqL (.refl _))
   ·exact sub_up (km y b h) (.seqR (.refl _))
 | .cond v x y, b, h => by
   simp only [fp, List.mem_append] at h
   rcases h with h | h
   ·exact sub_up (km x b h) (.condT (.refl _))
   ·exact sub_up (km y b h) (.condF (.refl _))
 | .block id x, b, h => sub_up (km x b (by simpa [fp] using h)) (.block (.refl _))
 | .loop x, b, h => by
   simp only [fp, List.mem_cons] at h
   rcases h with h | h
   ·subst h; exact .refl _
   ·exact sub_up (km x b h) (.loop (.refl _))
 | .skip, _, h | .region .., _, h | .rangeFunc .., _, h | .exit _, _, h | .scope _, _, h | .label _, _, h | .goto _, _, h | .ret, _, h | .refuse _, _, h => by simp [fp] at h
where
 sub_up {a b c : Code} (h : CSub a b) (g : CSub b c) : CSub a c := by
  induction h with
  | refl => exact g
  | seqL _ ih => exact .seqL (ih g)
  | seqR _ ih => exact .seqR (ih g)
  | condT _ ih => exact .condT (ih g)
  | condF _ ih => exact .condF (ih g)
  | block _ ih => exact .block (ih g)
  | loop _ ih => exact .loop (ih g)
theorem a06 {a x : Code} (h : CSub a x) : ∀ b, b ∈ fp a → b ∈ fp x := by
 induction h with
 | refl => exact fun b h => h
 | seqL _ ih => exact fun b h => ih b (by simp [fp, h])
 | seqR _ ih => exact fun b h => ih b (by simp [fp, h])
 | condT _ ih => exact fun b h => ih b (by simp [fp, h])
 | condF _ ih => exact fun b h => ih b (by simp [fp, h])
 | block _ ih => exact fun b h => ih b (by simp [fp, h])
 | loop _ ih => exact fun b h => ih b (by simp [fp, h])
theorem pickId_mem {k : Nat} {c : Code} : ∀ {l : List Code}, c ∈ xy k l ↔ c ∈ l ∧ mi c = k
 | [] => by simp [xy]
 | x :: l => by
   simp only [xy, ac]
   split
   ·rename_i h
    have h := zW h
    simp only [List.mem_cons, pickId_mem (l := l)]
    constructor
    ·rintro (rfl | ⟨h1, h2⟩)
     ·exact ⟨.inl rfl, h⟩
     ·exact ⟨.inr h1, h2⟩
    ·rintro ⟨rfl | h1, h2⟩
     ·exact .inl rfl
     ·exact .inr ⟨h1, h2⟩
   ·rename_i h
    simp only [List.mem_cons, pickId_mem (l := l)]
    constructor
    ·rintro ⟨h1, h2⟩; exact ⟨.inr h1, h2⟩
    ·rintro ⟨rfl | h1, h2⟩
     ·exact absurd (by rw [h2]; exact Nat.beq_refl k) h
     ·exact ⟨h1, h2⟩
theorem a73 {l : List Code} {b : Code} (h : bbx l = some b) : l = [b] := by
 unfold bbx at h
 split at h
 ·injection h with h; rw [h]
 ·cases h
theorem y9 {f k : Nat} {b : Code} (h : v7 f k = some b) : InF f (.loop b) ∧ ∀ c, InF f (.loop c) → mi c = k → c = b := by
 unfold v7 at h
 split at h
 ·rename_i x hx
  have h := a73 h
  have hb : b ∈ xy k (fp x.2) := by rw [h]; simp
  refine ⟨⟨x.1, x.2, hx, km _ _ (pickId_mem.1 hb).1⟩, ?_⟩
  rintro c ⟨fn, y, h1, h2⟩ hc
  rw [hx] at h1
  injection h1 with h1
  have : y = x.2 := by rw [h1]
  subst this
  have : c ∈ xy k (fp x.2) := pickId_mem.2 ⟨a06 h2 c (by simp [fp]), hc⟩
  rw [h] at this
  simpa using this
 ·cases h
theorem af1 {d : Bool} {ro : Option Nat} {fn : Nat} {P : Program} {c : Code} {Q Q' : Exit → Act → List Frame → World → Prop} {a : Act} {cs : List Frame} {w : World} (h : WL d ro fn P c Q a cs w) (hq : ∀ e a cs w, Q e a cs w → Q' e a cs w) : WL d ro fn P c Q' a cs w :=
 fun b k h1 h2 h3 => let ⟨e, a', cs', w', q, r⟩ := h b k h1 h2 h3; ⟨e, a', cs', w', hq _ _ _ _ q, r⟩
theorem a41 {ρ : Env} {aw aw2 : W} {w : World} {c₀ : Frame} {cs : List Frame} {r : LR} {um : UM} {nt : Nat} {e : Exit} {a' : Act} {cs' : List Frame} {w' : World} {ρ' : Env} (hg : GRel ρ) (hc : Clean ρ aw) (hcs : cs' = cs) (hd : a'.defers = []) (hA : Adv ρ aw w ρ' aw2 w')
  (hn : (acf r).length = nt) (h512 : nt ≤ 512)
  (hp : match r with
    | .x id us => e = .exit id ∧ VRels ρ' us a'.tmps.toList
    | .r us => e = .ret ∧ VRels ρ' us a'.tmps.toList
    | .p ch us => ∃ ch', e = .panic ch' ∧ ChRel ρ' ch ch' ∧ VRels ρ' us a'.tmps.toList) : Post ρ aw w nt false c₀ cs (rOf r um aw2) e a' cs' w' := by
 have hS : VRels ρ' (acf r) a'.tmps.toList → SRel ρ' nt false c₀ cs (j8 (acf r) 0 jv) [] um aw2 a' cs' w' := by
  intro hv
  have hlen : a'.tmps.size = (acf r).length := by have := VRels.length _ _ hv; simpa using this
  exact ⟨hg.mono hA.le, hA.rel, hc.adv hA, wj hv (by omega), by omega, h512, hd, hcs⟩
 cases r with
 | x id us => exact ⟨hp.1, ρ', hA, hS hp.2⟩
 | r us => exact ⟨hp.1, ρ', hA, hS hp.2⟩
 | p ch us => obtain ⟨ch', h1, h2, h3⟩ := hp; exact ⟨ch', ρ', h1, h2, hA, hS h3⟩
theorem art (f : AV → AV) (r : LR) : (acf (ars f r)).length = (acf r).length := by cases r <;> exact k9 _ _
set_option maxHeartbeats 1000000 in
theorem a38 {f k : Nat} {us : List AV} {nxi : Nat} {Li : List HO} {A : List SA} {bd : Option (SE × SE)} {r : LR} {nxo : Nat} {Lo : List HO} (hT : jd (.mk f k us nxi Li A bd r nxo Lo)) {um : UM} {τ : F} {aw : W} {nt : Nat} {KL : List (Nat × Nat)} {θ : Nat → GE} {A0 : List SA}
  (h99 : (θ 99).eval Gv.σ = Gv.σ 99) {R : R} (hR : R.ok) {b : Code} (hb : v7 f k = some b) (hus : us.length = nt) (hru : (acf r).length = nt) (h512 : nt ≤ 512)
  (hr : a36 us nxi Li A bd r nxo Lo (ki τ nt 0) um aw (wnx aw).num KL θ A0 (ci (dz KL nxi (wnx aw).num) θ A0 Li) (ci (dz KL nxi (wnx aw).num) θ A0 Lo) = some R)
  {ρ : Env} {c₀ : Frame} {cs₀ : List Frame} {a : Act} {cs : List Frame} {w : World} (hA : SAll Gv.σ A0) (h : SRel ρ nt false c₀ cs₀ τ [] um aw a cs w) :
  WS false none f PP (.loop b) (Post ρ aw w nt false c₀ cs₀ R) a cs w ∧ WL false none f PP b (Post ρ aw w nt false c₀ cs₀ R) a cs w := by
 unfold a36 at hr
 rw [ac] at hr
 split at hr
 case isFalse =>
  unfold aw8 at hr
  split at hr
  ·injection hr with hr; subst hr; exact hR.elim
  ·cases hr
 rename_i hok
 injection hr with hr
 subst hr
 rw [zU] at hok
 obtain ⟨hok, hbd⟩ := hok
 unfold a08 at hok
 obtain ⟨k1, hok⟩ := bcT.1 hok
 obtain ⟨k2, hok⟩ := bcT.1 hok
 obtain ⟨k3, hok⟩ := bcT.1 hok
 obtain ⟨k4, k5⟩ := bcT.1 hok
 simp only [zU] at k1 k2 k3 k4
 obtain ⟨⟨⟨⟨b1, b2⟩, b3⟩, b4⟩, b5⟩ := k1
 obtain ⟨⟨⟨⟨d1, d2⟩, d3⟩, d4⟩, d5⟩ := k2
 obtain ⟨f1, f2⟩ := k3
 obtain ⟨⟨g1, g2⟩, g3⟩ := k4
 have b1 := zE b1
 have b2 := zE b2
 have b3 := zE b3
 have b4 := zE b4
 have b5 := zE b5
 have hSA := wh hA k5
 have sub := aib hA (nx := (wnx aw).num) (K.of_of _) g1 g2
 have hcl : Clean ρ (ag (ci (dz KL nxi (wnx aw).num) θ A0 Li) (wnx aw).num) := fun k hk => h.cl k (by rw [← sub.nx]; exact hk)
 obtain ⟨ρt, q1, q2, q3, q4, q5⟩ := an4 (σ := Gv.σ) (θ := θ) hA b1 b2 b3 b4 b5 d1 d2 d3 d4 h.g (h.wr.sub sub) hcl
 have hv : VRels ρ (ki τ nt 0) a.tmps.toList := by
  have := ot h.fr nt 0 (by rw [h.sz]; omega)
  simpa using this
 have hv' : @VRels (GvS Gv.σ θ) ρt us a.tmps.toList := ae7 (fun x v p h => fwd hA q4 8 x v p h) d5 (vw (rj hA 8) g3 hv)
 have hds : a.defers = [] := h.dr
 have hcs : cs = cs₀ := h.um
 have key := hT (fun i => (θ i).eval Gv.σ) h99 hSA (aml hA hbd) b hb ρt a cs w q1 q2 q3 (by omega) hv' hds
 have fin : ∀ e a' cs' w', @av3 (GvS Gv.σ θ) ρt (ag Li nxi) w cs r (ag Lo nxo) e a' cs' w' →
   Post ρ aw w nt false c₀ cs₀ (rOf (ars (ec (dz KL nxi (wnx aw).num) θ A0 8) r) um (.mk (w7 (ci (dz KL nxi (wnx aw).num) θ A0 Lo) (re (ci (dz KL nxi (wnx aw).num) θ A0 Li) (hOf aw))) (K.of ((wnx aw).num + (nxo - nxi))))) e a' cs' w' := by
  intro e a' cs' w' hp
  obtain ⟨p1, p2, ρ1, hA1, hp⟩ := hp
  obtain ⟨ρ', hA2, hkb⟩ := q5 ρ1 w' hA1
  have hA3 := yt h.wr h.cl sub f1 f2 b5 hA2
  have back : ∀ {us : List AV} {xs : List Value}, @VRels (GvS Gv.σ θ) ρ1 us xs → VRels ρ' (shL (ec (dz KL nxi (wnx aw).num) θ A0 8) us) xs := fun hv => agz (fun x v h => bwd hA hkb 8 x v h) hv
  subst p1 hcs
  refine a41 h.g h.cl rfl p2 hA3 (by rw [art]; exact hru) h512 ?_
  cases r with
  | x id us => exact ⟨hp.1, back hp.2⟩
  | r us => exact ⟨hp.1, back hp.2⟩
  | p ch us => obtain ⟨ch', h1, h2, h3⟩ := hp; exact ⟨ch', h1, ap9 hA hkb h2, back h3⟩
 exact ⟨qj key.1 fin, af1 key.2 fin⟩
theorem aih (ρ : Env) (k : K) : jp ρ ρ k k := fun c h => ⟨h, rfl⟩
end
noncomputable section
def aVs (A : List SA) (us : List AV) : List AV := shL (ec (fun k => k) GE.s A 8) us
def aHO (A : List SA) : List HO → List HO
 | [] => []
 | .mk k o :: l => .mk k (xz (fun k => k) GE.s A o) :: aHO A l
def wz : List HO → Bool
 | [] => true
 | .mk _ o :: l => bc (act o) (wz l) false
def ark (T : List (Nat × Nat)) (nxi : Nat) (E : EqL) (τ : F) (nt : Nat) (us : List AV) : Bool := leAV.leL (leR (py T nxi) E 8) (ki τ nt 0) us
def az1 (f : AV → AV → Bool) : List PE → List PE → Bool
 | [], [] => true
 | .mk v b :: l, .mk u c :: m => bc (f v u) (bc (azv b c) (az1 f l m) false) false
 | _, _ => false
def akm (T : List (Nat × Nat)) (nxi nxo : Nat) (E : EqL) (Lo : List HO) (w : W) : Bool :=
 bc (Nat.ble 256 nxi && Nat.ble nxi nxo && Nat.ble nxo 65535) (bc (tabOk Lo T nxi nxo T) (bc (rf laidL w) (aq4 T E nxi w Lo) false) false) false
def za (T : List (Nat × Nat)) (nxi nxo : Nat) (E : EqL) (Lo : List HO) (nt : Nat) (r : LR) (R : R) : Bool := match r, R with
 | .x id us, .x id' (.mk τ [] _ w) => bc (Nat.beq id id') (bc (ark T nxi E τ nt us) (akm T nxi nxo E Lo w) false) false
 | .r us, .r (.mk τ [] _ w) => bc (ark T nxi E τ nt us) (akm T nxi nxo E Lo w) false
 | .p ch us, .p ch' (.mk τ [] _ w) => bc (az1 (leR (py T nxi) E 8) ch' ch) (bc (ark T nxi E τ nt us) (akm T nxi nxo E Lo w) false) false
 | _, _ => false
def abh (T : List (Nat × Nat)) (nxi nxo : Nat) (E : EqL) (Lo : List HO) (r : TR) (R : CR) : Bool := match r, R with
 | .ret v, .ret v' w => bc (leR (py T nxi) E 8 v' v) (akm T nxi nxo E Lo w) false
 | .pan ch, .pan ch' w => bc (az1 (leR (py T nxi) E 8) ch' ch) (akm T nxi nxo E Lo w) false
 | _, _ => false
end
section
variable [Gv]
theorem amj {ρ : Env} {A : List SA} (hA : SAll Gv.σ A) {us : List AV} {xs : List Value} (h : VRels ρ us xs) : VRels ρ (aVs A us) xs :=
 agz (σ := Gv.σ) (θ := GE.s) (ρ := ρ) (ρt := ρ) (fun x v h => bwd (σ := Gv.σ) (θ := GE.s) hA (fun k => aih ρ k) 8 x v h) h
theorem bcn {A : List SA} (hA : SAll Gv.σ A) {nx : Nat} : ∀ {L : List HO}, wz L = true → ∀ k, aa k (ab (aHO A L)) ≠ .none →
  aa k (ab L) ≠ .none ∧ (aa k (ab (aHO A L))).isRo = (aa k (ab L)).isRo ∧ ∀ ρ x, ORel ρ (aa k (ab L)) x → ORel ρ (aa k (ab (aHO A L))) x
 | [], _, k, h => ⟨h, rfl, fun _ _ h => h⟩
 | .mk n o :: L, ht, k, h => by
   simp only [wz] at ht
   obtain ⟨t1, t2⟩ := bcT.1 ht
   simp only [aHO, ab] at h ⊢
   by_cases e : k = K.of n
   ·subst e
    rw [ai, ai]
    exact ⟨c7 _, x6 _ _ _ _, fun ρ x hx => bct (σ := Gv.σ) (θ := GE.s) hA (fun k => aih ρ k) t1 hx⟩
   ·rw [az e] at h ⊢
    rw [az e]
    exact bcn (nx := nx) hA t2 k h
theorem aLh {A : List SA} : ∀ {L : List HO} (k : K) (kd : Nat) (g : GE), bi (aa k (ab (aHO A L))) = some (kd, g) → ∃ g', bi (aa k (ab L)) = some (kd, g') ∧ g.eval Gv.σ = g'.eval Gv.σ
 | [], k, kd, g, h => ⟨g, h, rfl⟩
 | .mk n o :: L, k, kd, g, h => by
   simp only [aHO, ab] at h ⊢
   by_cases e : k = K.of n
   ·subst e
    rw [ai] at h ⊢
    have : bi (bu o) ≠ none := fun e => by rw [ajd e] at h; cases h
    obtain ⟨kd', g', e1, e2⟩ := ajc (κ := fun k => k) (θ := GE.s) (A := A) this
    rw [h] at e2
    injection e2 with e2
    injection e2 with e2 e3
    subst e2 e3
    exact ⟨g', e1, by rw [GE.sub_eval]; rfl⟩
   ·rw [az e] at h ⊢
    exact aLh k kd g h
theorem a1t {A : List SA} (hA : SAll Gv.σ A) {nx : Nat} {L : List HO} (h : wz L = true) : Sub (ag (aHO A L) nx) (ag L nx) := ⟨rfl, bcn (nx := nx) hA h, fun k kd g h => aLh k kd g h⟩
theorem abl {ρ1 ρ2 : Env} {f : AV → AV → Bool} (hf : ∀ a b x, f a b = true → VRel ρ1 a x → VRel ρ2 b x) : ∀ {l m : List PE} {xs : List PanicEntry}, az1 f l m = true → ChRel ρ1 l xs → ChRel ρ2 m xs
 | [], [], _, _, h => h
 | [], .mk _ _ :: _, _, h, _ => by cases h
 | .mk _ _ :: _, [], _, h, _ => by cases h
 | .mk v b :: l, .mk u c :: m, _, h, ⟨v', ch', e1, e2, e3⟩ => by
   simp only [az1] at h
   obtain ⟨h1, h2⟩ := bcT.1 h
   obtain ⟨h2, h3⟩ := bcT.1 h2
   have h2 := abe h2
   subst h2
   exact ⟨v', ch', e1, hf _ _ _ h1 e2, abl hf h3 e3⟩
theorem sk {T : List (Nat × Nat)} {nxi nxo : Nat} {E : EqL} {Lo : List HO} {ρ ρ1 : Env} {a a1 : W} {w w1 : World} (hc : Clean ρ a) (hnx : a.nx.num = nxi) (hE : E.all Gv.σ) (h : akm T nxi nxo E Lo a1 = true) (hA : Adv ρ a w ρ1 a1 w1) :
  ∃ ρ2, Adv ρ a w ρ2 (ag Lo nxo) w1 ∧ ∀ k k', py T nxi k = some k' → jp ρ1 ρ2 k k' := by
 unfold akm at h
 obtain ⟨h1, h⟩ := bcT.1 h
 obtain ⟨h2, h⟩ := bcT.1 h
 obtain ⟨h3, h4⟩ := bcT.1 h
 simp only [zU] at h1
 exact a8b hc hnx hE (zE h1.1.1) (zE h1.1.2) (zE h1.2) h2 h3 h4 hA
theorem uv {H : ac3} (hH : oc H) {L : se} (hL : aa7 L) {n f k : Nat} {us : List AV} {nxi : Nat} {Li : List HO} {A : List SA} {r : LR} {nxo : Nat} {Lo : List HO} {T : List (Nat × Nat)} {E : EqL} (hA : SAll Gv.σ A) (hE : E.all Gv.σ) (hx : Nat.blt nxi 65536 = true)
  (ht : wz Li = true) (h : za T nxi nxo E Lo (cx us) r (qv (ve f k) (ad3 H L n) (.mk f (cx us) false none) (.mk (j8 (aVs A us) 0 jv) [] .none (ag (aHO A Li) nxi))) = true) : tm f k us nxi Li r nxo Lo := by
 intro b hb ρ a cs w hg hw hc h512 hv hd
 have hbody : ve f k = b := by unfold ve; rw [hb]
 rw [hbody, ax] at h
 have sub := a1t hA (nx := nxi) ht
 have hva := amj hA hv
 have hlen : a.tmps.size = us.length := by have := VRels.length _ _ hv; simpa using this
 have hla : (aVs A us).length = us.length := k9 _ _
 have hS : SRel ρ us.length false (default : Frame) cs (j8 (aVs A us) 0 jv) [] .none (ag (aHO A Li) nxi) a cs w :=
  ⟨hg, hw.sub sub, fun k hk => hc k hk, wj hva (by omega), hlen, h512, hd, rfl⟩
 have hnum : (ag Li nxi).nx.num = nxi := bw (zE hx)
 generalize hR : qv b (ad3 H L n) (.mk f us.length false none) (.mk (j8 (aVs A us) 0 jv) [] .none (ag (aHO A Li) nxi)) = R at h
 have hok : R.ok := by cases R <;> first | trivial | (cases r <;> cases h)
 have key := aip (afy hH hL n) (rk := none) hS rfl (fun _ => (y9 hb).1) (by rw [hR]; exact hok)
 rw [hR] at key
 have fin : ∀ e a' cs' w', Post ρ (ag (aHO A Li) nxi) w us.length false default cs R e a' cs' w' → av3 ρ (ag Li nxi) w cs r (ag Lo nxo) e a' cs' w' := by
  intro e a' cs' w' hp
  have slots : ∀ {ρ1 ρ2 : Env} {τ : F} {um : UM} {aw : W} {vs : List AV}, SRel ρ1 us.length false default cs τ [] um aw a' cs' w' → ark T nxi E τ us.length vs = true → (∀ k k', py T nxi k = some k' → jp ρ1 ρ2 k k') → VRels ρ2 vs a'.tmps.toList := by
   intro ρ1 ρ2 τ um aw vs hs hl hk
   have hv : VRels ρ1 (ki τ us.length 0) a'.tmps.toList := by
    have := ot hs.fr us.length 0 (by rw [hs.sz]; omega)
    simpa using this
   exact md (lu hE hk 8) hl hv
  cases R with
  | n S => cases r <;> cases h
  | no c f => cases r <;> cases h
  | x id' S =>
    obtain ⟨τ, ds, um, aw⟩ := S
    obtain ⟨rfl, ρ1, hA1, hS1⟩ := hp
    cases r <;> try (cases h; done)
    rename_i id vs
    cases ds <;> try (cases h; done)
    simp only [za] at h
    obtain ⟨h1, h⟩ := bcT.1 h
    obtain ⟨h2, h3⟩ := bcT.1 h
    have h1 := zW h1
    subst h1
    obtain ⟨ρ2, hA2, hk⟩ := sk hc hnum hE h3 (hA1.left sub)
    exact ⟨hS1.um, hS1.dr, ρ2, hA2, rfl, slots hS1 h2 hk⟩
  | r S =>
    obtain ⟨τ, ds, um, aw⟩ := S
    obtain ⟨rfl, ρ1, hA1, hS1⟩ := hp
    cases r <;> try (cases h; done)
    rename_i vs
    cases ds <;> try (cases h; done)
    simp only [za] at h
    obtain ⟨h2, h3⟩ := bcT.1 h
    obtain ⟨ρ2, hA2, hk⟩ := sk hc hnum hE h3 (hA1.left sub)
    exact ⟨hS1.um, hS1.dr, ρ2, hA2, rfl, slots hS1 h2 hk⟩
  | p ch S =>
    obtain ⟨τ, ds, um, aw⟩ := S
    obtain ⟨ch', ρ1, rfl, hch, hA1, hS1⟩ := hp
    cases r <;> try (cases h; done)
    rename_i ch2 vs
    cases ds <;> try (cases h; done)
    simp only [za] at h
    obtain ⟨h1, h⟩ := bcT.1 h
    obtain ⟨h2, h3⟩ := bcT.1 h
    obtain ⟨ρ2, hA2, hk⟩ := sk hc hnum hE h3 (hA1.left sub)
    exact ⟨hS1.um, hS1.dr, ρ2, hA2, ch', rfl, abl (lu hE hk 8) h1 hch, slots hS1 h2 hk⟩
 exact ⟨qj key.1 fin, af1 key.2 fin⟩
theorem ej {H : ac3} (hH : oc H) {L : se} (hL : aa7 L) {n f : Nat} {us : List AV} {nxi : Nat} {Li : List HO} {A : List SA} {r : TR} {nxo : Nat} {Lo : List HO} {T : List (Nat × Nat)} {E : EqL} (hA : SAll Gv.σ A) (hE : E.all Gv.σ) (hx : Nat.blt nxi 65536 = true)
  (ht : wz Li = true) (h : abh T nxi nxo E Lo r (enter (ad3 H L n) f (aVs A us) (ag (aHO A Li) nxi)) = true) : di f us nxi Li r nxo Lo := by
 intro ρ args w hg hw hc hv
 have sub := a1t hA (nx := nxi) ht
 have hnum : (ag Li nxi).nx.num = nxi := bw (zE hx)
 generalize hR : enter (ad3 H L n) f (aVs A us) (ag (aHO A Li) nxi) = R at h
 have hok : R.ok := by cases R <;> first | trivial | (cases r <;> cases h)
 have key := uf (afy hH hL n) hg (hw.sub sub) (fun k hk => hc k hk) (f := f) (amj hA hv) (by rw [hR]; exact hok)
 rw [hR] at key
 refine Calls.mono key fun e w' hp => ?_
 cases R with
 | no => cases r <;> cases h
 | ret v' aw =>
   cases r <;> try (cases h; done)
   rename_i v
   obtain ⟨x, ρ1, rfl, hv', hA1⟩ := hp
   simp only [abh] at h
   obtain ⟨h1, h2⟩ := bcT.1 h
   obtain ⟨ρ2, hA2, hk⟩ := sk hc hnum hE h2 (hA1.left sub)
   exact ⟨x, ρ2, rfl, lu hE hk 8 _ _ _ h1 hv', hA2⟩
 | pan ch' aw =>
   cases r <;> try (cases h; done)
   rename_i ch
   obtain ⟨x, ρ1, rfl, hv', hA1⟩ := hp
   simp only [abh] at h
   obtain ⟨h1, h2⟩ := bcT.1 h
   obtain ⟨ρ2, hA2, hk⟩ := sk hc hnum hE h2 (hA1.left sub)
   exact ⟨x, ρ2, rfl, abl (lu hE hk 8) h1 hv', hA2⟩
end
end Go.Ev
set_option maxRecDepth 100000
set_option linter.all false
namespace Go.Ev
noncomputable section
def ab6 (A1 : List SA) (l : List TM) (f : FuncId) (vs : List AV) (w : W) : Option CR := match l with
 | [] => none
 | .mk g us nxi Li A bd r nxo Lo :: l => bc (Nat.beq f g) (match a5o us nxi Li A bd r nxo Lo vs w (aw6 w Li (mL (mAV 8) us vs (.mk [] []))) A1 with
   | some c => some c
   | none => ab6 A1 l f vs w) (ab6 A1 l f vs w)
def arn (A1 : List SA) (f nt : Nat) (b : Code) (τ : F) (um : UM) (w : W) : List LT → Option R
 | [] => none
 | .mk g k us nxi Li A bd r nxo Lo :: l => bc (Nat.beq f g && Nat.beq (mi b) k && (v7 f k).isSome && Nat.beq (cx us) nt && Nat.beq (cx (acf r)) nt) (match a39 us nxi Li A bd r nxo Lo (ki τ nt 0) um w (aw6 w Li (mL (mAV 8) us (ki τ nt 0) (.mk [] []))) A1 with
   | some R => some R
   | none => arn A1 f nt b τ um w l) (arn A1 f nt b τ um w l)
def bbj (A1 : List SA) (l : List LT) : se := fun C b S => match C, S with
 | .mk f nt false none, .mk τ [] um w => arn A1 f nt b τ um w l
 | _, _ => none
end
section
variable [Gv]
theorem anv {M : MT} (h : auk (thM M) = true) : (afg M 99).eval Gv.σ = Gv.σ 99 := by
 obtain ⟨KL, TH⟩ := M
 have e : ab1 TH 99 = none := alq h
 show (match ab1 TH 99 with | some g => g | none => GE.s 99).eval Gv.σ = _
 rw [e]
 simp only [GE.eval]
theorem aid {A1 : List SA} (hA1 : SAll Gv.σ A1) : ∀ (l : List TM), (∀ t ∈ l, cy t) → oc (ab6 A1 l)
 | [], _ => fun _ _ _ _ h => by cases h
 | .mk g us nxi Li A bd r nxo Lo :: l, h => by
   have ih := aid hA1 l fun t hm => h t (zA _ hm)
   intro f vs aw R hr hok
   simp only [ab6, ac] at hr
   split at hr
   ·rename_i hf
    have hf := zW hf
    subst hf
    split at hr
    ·rename_i c ht
     injection hr with hr
     subst hr
     intro ρ args w hg hw hc hv
     unfold a5o at ht
     rw [ac] at ht
     split at ht <;> try (cases ht; done)
     rename_i h99
     exact a5n (h _ (by simp)) (anv h99) hok ht hA1 hg hw hc hv
    ·exact ih f vs aw R hr hok
   ·exact ih f vs aw R hr hok
theorem aro {A1 : List SA} (hA1 : SAll Gv.σ A1) {f nt : Nat} {b : Code} {τ : F} {um : UM} {aw : W} {R : R} (hR : R.ok) (hin : InF f (.loop b)) {ρ : Env} {c₀ : Frame} {cs₀ : List Frame} {a : Act} {cs : List Frame} {w : World} (h : SRel ρ nt false c₀ cs₀ τ [] um aw a cs w) :
  ∀ l : List LT, (∀ t ∈ l, jd t) → arn A1 f nt b τ um aw l = some R → WS false none f PP (.loop b) (Post ρ aw w nt false c₀ cs₀ R) a cs w ∧ WL false none f PP b (Post ρ aw w nt false c₀ cs₀ R) a cs w
 | [], _, hr => by cases hr
 | .mk g k us nxi Li A bd r nxo Lo :: l, hl, hr => by
   have ih := aro hA1 (R := R) hR hin h l fun t hm => hl t (zA _ hm)
   simp only [arn, ac] at hr
   split at hr
   ·rename_i hc
    simp only [zU] at hc
    obtain ⟨⟨⟨⟨c1, c2⟩, c3⟩, c4⟩, c5⟩ := hc
    have c1 := zW c1
    have c2 := zW c2
    have c4 := zW c4
    have c5 := zW c5
    rw [ax] at c4 c5
    subst c1 c2
    obtain ⟨b', hb'⟩ := Option.isSome_iff_exists.1 c3
    have : b = b' := (y9 hb').2 b hin rfl
    subst this
    split at hr
    ·rename_i c ht
     injection hr with hr
     subst hr
     unfold a39 at ht
     rw [ac] at ht
     split at ht <;> try (cases ht; done)
     rename_i h99
     exact a38 (hl _ (by simp)) (anv h99) hR hb' c4 c5 h.le ht hA1 h
    ·exact ih hr
   ·exact ih hr
theorem aft {A1 : List SA} (hA1 : SAll Gv.σ A1) (l : List LT) (hl : ∀ t ∈ l, jd t) : aa7 (bbj A1 l) := by
 intro f nt d rk b τ ds um aw R hr hok
 unfold bbj at hr
 split at hr
 ·rename_i heq1 heq2
  injection heq1 with e1 e2 e3 e4
  injection heq2 with e5 e6 e7 e8
  subst e1 e2 e3 e4 e5 e6 e7 e8
  exact ⟨rfl, fun hin ρ c₀ cs₀ a cs w h => aro hA1 hok hin h l hl hr⟩
 ·cases hr
end
end Go.Ev
set_option maxRecDepth 100000
set_option linter.all false
namespace Go.Ev
noncomputable section
def aeu (f : AV → AV) : List AD → List AD
 | [] => []
 | .call fn c a :: l => .call fn (shL f c) (shL f a) :: aeu f l
 | .coll b :: l => .coll b :: aeu f l
def acs : List AD → Bool
 | [] => true
 | .call _ c a :: l => bc (w9 (oa 8) c) (bc (w9 (oa 8) a) (acs l) false) false
 | .coll _ :: _ => false
def aua (f : AV → AV → Bool) : List AD → List AD → Bool
 | [], [] => true
 | .call g c a :: l, .call g' c' a' :: m => bc (a28 g g') (bc (leAV.leL f c c') (bc (leAV.leL f a a') (aua f l m) false) false) false
 | _, _ => false
def mAD : List AD → List AD → MT → MT
 | .call _ c a :: l, .call _ c' a' :: m, M => mAD l m (mL (mAV 8) a a' (mL (mAV 8) c c' M))
 | _, _, M => M
inductive LTD where
 | mk (f k : Nat) (us : List AV) (ds : List AD) (nxi : Nat) (Li : List HO) (A : List SA) (bd : Option (SE × SE)) (r : LR) (nxo : Nat) (Lo : List HO)
def bbz (r : LR) (ds : List AD) (um : UM) (w : W) : R := match r with
 | .x id us => .x id (.mk (j8 us 0 jv) ds um w)
 | .r us => .r (.mk (j8 us 0 jv) ds um w)
 | .p ch us => .p ch (.mk (j8 us 0 jv) ds um w)
def auf (us : List AV) (ds : List AD) (nxi : Nat) (Li : List HO) (A : List SA) (bd : Option (SE × SE)) (r : LR) (nxo : Nat) (Lo : List HO) (vs : List AV) (dv : List AD) (um : UM) (w : W) (nx : Nat) (KL : List (Nat × Nat)) (θ : Nat → GE) (A0 : List SA) (Li' Lo' : List HO) (ds' : List AD) : Option R :=
 bc (acs ds && aua (leAV A0 8) dv ds') (bc (a08 vs us nxi nxo nx KL θ A A0 Li Lo Li' Lo' w && a1y bd θ A0) (some (bbz (ars (ec (dz KL nxi nx) θ A0 8) r) ds' um (.mk (w7 Lo' (re Li' (hOf w))) (K.of (nx + (nxo - nxi)))))) (aw8 (a4g (a5l vs us nxi nxo nx KL θ A0 Li Lo Li' Lo' w) (ant bd θ A A0)))) none
def a4a (us : List AV) (ds : List AD) (nxi : Nat) (Li : List HO) (A : List SA) (bd : Option (SE × SE)) (r : LR) (nxo : Nat) (Lo : List HO) (vs : List AV) (dv : List AD) (um : UM) (w : W) (M : MT) (A0 : List SA) : Option R :=
 bc (auk (thM M)) (auf us ds nxi Li A bd r nxo Lo vs dv um w (wnx w).num (aij M) (afg M) A0 (ci (dz (aij M) nxi (wnx w).num) (afg M) A0 Li) (ci (dz (aij M) nxi (wnx w).num) (afg M) A0 Lo) (aeu (ec (dz (aij M) nxi (wnx w).num) (afg M) A0 8) ds)) none
def arp (A1 : List SA) (f nt : Nat) (b : Code) (τ : F) (dv : List AD) (um : UM) (w : W) : List LTD → Option R
 | [] => none
 | .mk g k us ds nxi Li A bd r nxo Lo :: l => bc (Nat.beq f g && Nat.beq (mi b) k && (v7 f k).isSome && Nat.beq (cx us) nt && Nat.beq (cx (acf r)) nt) (match a4a us ds nxi Li A bd r nxo Lo (ki τ nt 0) dv um w (aw6 w Li (mAD ds dv (mL (mAV 8) us (ki τ nt 0) (.mk [] [])))) A1 with
   | some R => some R
   | none => arp A1 f nt b τ dv um w l) (arp A1 f nt b τ dv um w l)
def beh (A1 : List SA) (l : List LTD) : se := fun C b S => match C, S with
 | .mk f nt false none, .mk τ ds um w => arp A1 f nt b τ ds um w l
 | _, _ => none
end
section
variable [Gv]
def ami (ρ : Env) (aw : W) (w : World) (cs : List Frame) (ds : List AD) (r : LR) (aw' : W) (e : Exit) (a' : Act) (cs' : List Frame) (w' : World) : Prop := cs' = cs ∧ ∃ ρ', Adv ρ aw w ρ' aw' w' ∧ DRels ρ' ds a'.defers ∧ match r with
 | .x id us => e = .exit id ∧ VRels ρ' us a'.tmps.toList
 | .r us => e = .ret ∧ VRels ρ' us a'.tmps.toList
 | .p ch us => ∃ ch', e = .panic ch' ∧ ChRel ρ' ch ch' ∧ VRels ρ' us a'.tmps.toList
def agq (f k : Nat) (us : List AV) (ds : List AD) (nxi : Nat) (Li : List HO) (r : LR) (nxo : Nat) (Lo : List HO) : Prop :=
 ∀ b, v7 f k = some b → ∀ (ρ : Env) (a : Act) (cs : List Frame) (w : World), GRel ρ → WRel ρ (ag Li nxi) w → Clean ρ (ag Li nxi) → us.length ≤ 512 → VRels ρ us a.tmps.toList → DRels ρ ds a.defers →
  WS false none f PP (.loop b) (ami ρ (ag Li nxi) w cs ds r (ag Lo nxo)) a cs w ∧ WL false none f PP b (ami ρ (ag Li nxi) w cs ds r (ag Lo nxo)) a cs w
def lf : LTD → Prop
 | .mk f k us ds nxi Li A bd r nxo Lo => ∀ σ : Nat → List Int, σ 99 = Gv.σ 99 → SAll σ A → afl σ bd → @agq ⟨σ⟩ f k us ds nxi Li r nxo Lo
theorem xq {f : AV → AV → Bool} {ρ1 ρ2 : Env} (hf : ∀ a b x, f a b = true → VRel ρ1 a x → VRel ρ2 b x) : ∀ {l m : List AD} {xs : List Deferred}, aua f l m = true → DRels ρ1 l xs → DRels ρ2 m xs
 | [], [], _, _, h => h
 | [], _ :: _, _, h, _ => by cases h
 | .call _ _ _ :: _, [], _, h, _ => by cases h
 | .coll _ :: _, [], _, h, _ => by cases h
 | .coll _ :: _, _ :: _, _, h, _ => by cases h
 | .call _ _ _ :: _, .coll _ :: _, _, h, _ => by cases h
 | .call g c a :: l, .call g' c' a' :: m, xs, h, hx => by
   simp only [aua] at h
   obtain ⟨h1, h⟩ := bcT.1 h
   obtain ⟨h2, h⟩ := bcT.1 h
   obtain ⟨h3, h4⟩ := bcT.1 h
   obtain ⟨d', ds', rfl, ⟨cap', args', q1, q2, q3⟩, q4⟩ := hx
   refine ⟨d', ds', rfl, ⟨cap', args', ?_, md hf h2 q2, md hf h3 q3⟩, xq hf h4 q4⟩
   rw [← am5 h1]; exact q1
theorem a9m {σ : Nat → List Int} {θ : Nat → GE} {κ : K → K} {ρ ρt : Env} {A : List SA} (hA : SAll σ A) (hk : ∀ k, jp ρ ρt (κ k) k) : ∀ {ds : List AD} {l : List Deferred}, acs ds = true → @DRels ⟨σ⟩ ρ (aeu (ec κ θ A 8) ds) l → @DRels (GvS σ θ) ρt ds l
 | [], _, _, h => h
 | .coll _ :: _, _, h, _ => by cases h
 | .call g c a :: ds, _, ht, h => by
   simp only [acs] at ht
   obtain ⟨t1, ht⟩ := bcT.1 ht
   obtain ⟨t2, t3⟩ := bcT.1 ht
   obtain ⟨d', ds', rfl, ⟨cap', args', q1, q2, q3⟩, q4⟩ := h
   exact ⟨d', ds', rfl, ⟨cap', args', q1, ae7 (fun x v p h => fwd hA hk 8 x v p h) t1 q2, ae7 (fun x v p h => fwd hA hk 8 x v p h) t2 q3⟩, a9m hA hk t3 q4⟩
theorem a18 {σ : Nat → List Int} {θ : Nat → GE} {κ : K → K} {ρ ρt : Env} {A : List SA} (hA : SAll σ A) (hk : ∀ k, jp ρt ρ k (κ k)) : ∀ {ds : List AD} {l : List Deferred}, acs ds = true → @DRels (GvS σ θ) ρt ds l → @DRels ⟨σ⟩ ρ (aeu (ec κ θ A 8) ds) l
 | [], _, _, h => h
 | .coll _ :: _, _, h, _ => by cases h
 | .call g c a :: ds, _, ht, h => by
   simp only [acs] at ht
   obtain ⟨t1, ht⟩ := bcT.1 ht
   obtain ⟨t2, t3⟩ := bcT.1 ht
   obtain ⟨d', ds', rfl, ⟨cap', args', q1, q2, q3⟩, q4⟩ := h
   exact ⟨d', ds', rfl, ⟨cap', args', q1, agz (fun x v h => bwd hA hk 8 x v h) q2, agz (fun x v h => bwd hA hk 8 x v h) q3⟩, a18 hA hk t3 q4⟩
theorem a0v {ρ : Env} {aw aw2 : W} {w : World} {c₀ : Frame} {cs : List Frame} {r : LR} {ds : List AD} {um : UM} {nt : Nat} {e : Exit} {a' : Act} {cs' : List Frame} {w' : World} {ρ' : Env} (hg : GRel ρ) (hc : Clean ρ aw) (hcs : cs' = cs) (hd : DRels ρ' ds a'.defers) (hA : Adv ρ aw w ρ' aw2 w')
  (hn : (acf r).length = nt) (h512 : nt ≤ 512)
  (hp : match r with
    | .x id us => e = .exit id ∧ VRels ρ' us a'.tmps.toList
    | .r us => e = .ret ∧ VRels ρ' us a'.tmps.toList
    | .p ch us => ∃ ch', e = .panic ch' ∧ ChRel ρ' ch ch' ∧ VRels ρ' us a'.tmps.toList) : Post ρ aw w nt false c₀ cs (bbz r ds um aw2) e a' cs' w' := by
 have hS : VRels ρ' (acf r) a'.tmps.toList → SRel ρ' nt false c₀ cs (j8 (acf r) 0 jv) ds um aw2 a' cs' w' := by
  intro hv
  have hlen : a'.tmps.size = (acf r).length := by have := VRels.length _ _ hv; simpa using this
  exact ⟨hg.mono hA.le, hA.rel, hc.adv hA, wj hv (by omega), by omega, h512, hd, hcs⟩
 cases r with
 | x id us => exact ⟨hp.1, ρ', hA, hS hp.2⟩
 | r us => exact ⟨hp.1, ρ', hA, hS hp.2⟩
 | p ch us => obtain ⟨ch', h1, h2, h3⟩ := hp; exact ⟨ch', ρ', h1, h2, hA, hS h3⟩
set_option maxHeartbeats 1000000 in
theorem a0k {f k : Nat} {us : List AV} {ds : List AD} {nxi : Nat} {Li : List HO} {A : List SA} {bd : Option (SE × SE)} {r : LR} {nxo : Nat} {Lo : List HO} (hT : lf (.mk f k us ds nxi Li A bd r nxo Lo)) {dv : List AD} {um : UM} {τ : F} {aw : W} {nt : Nat} {KL : List (Nat × Nat)} {θ : Nat → GE} {A0 : List SA}
  (h99 : (θ 99).eval Gv.σ = Gv.σ 99) {R : R} (hR : R.ok) {b : Code} (hb : v7 f k = some b) (hus : us.length = nt) (hru : (acf r).length = nt) (h512 : nt ≤ 512)
  (hr : auf us ds nxi Li A bd r nxo Lo (ki τ nt 0) dv um aw (wnx aw).num KL θ A0 (ci (dz KL nxi (wnx aw).num) θ A0 Li) (ci (dz KL nxi (wnx aw).num) θ A0 Lo) (aeu (ec (dz KL nxi (wnx aw).num) θ A0 8) ds) = some R)
  {ρ : Env} {c₀ : Frame} {cs₀ : List Frame} {a : Act} {cs : List Frame} {w : World} (hA : SAll Gv.σ A0) (h : SRel ρ nt false c₀ cs₀ τ dv um aw a cs w) :
  WS false none f PP (.loop b) (Post ρ aw w nt false c₀ cs₀ R) a cs w ∧ WL false none f PP b (Post ρ aw w nt false c₀ cs₀ R) a cs w := by
 unfold auf at hr
 rw [ac] at hr
 split at hr <;> try (cases hr; done)
 rename_i hds0
 rw [zU] at hds0
 obtain ⟨td, ld⟩ := hds0
 rw [ac] at hr
 split at hr
 case isFalse =>
  unfold aw8 at hr
  split at hr
  ·injection hr with hr; subst hr; exact hR.elim
  ·cases hr
 rename_i hok
 injection hr with hr
 subst hr
 rw [zU] at hok
 obtain ⟨hok, hbd⟩ := hok
 unfold a08 at hok
 obtain ⟨k1, hok⟩ := bcT.1 hok
 obtain ⟨k2, hok⟩ := bcT.1 hok
 obtain ⟨k3, hok⟩ := bcT.1 hok
 obtain ⟨k4, k5⟩ := bcT.1 hok
 simp only [zU] at k1 k2 k3 k4
 obtain ⟨⟨⟨⟨b1, b2⟩, b3⟩, b4⟩, b5⟩ := k1
 obtain ⟨⟨⟨⟨d1, d2⟩, d3⟩, d4⟩, d5⟩ := k2
 obtain ⟨f1, f2⟩ := k3
 obtain ⟨⟨g1, g2⟩, g3⟩ := k4
 have b1 := zE b1
 have b2 := zE b2
 have b3 := zE b3
 have b4 := zE b4
 have b5 := zE b5
 have hSA := wh hA k5
 have sub := aib hA (nx := (wnx aw).num) (K.of_of _) g1 g2
 have hcl : Clean ρ (ag (ci (dz KL nxi (wnx aw).num) θ A0 Li) (wnx aw).num) := fun k hk => h.cl k (by rw [← sub.nx]; exact hk)
 obtain ⟨ρt, q1, q2, q3, q4, q5⟩ := an4 (σ := Gv.σ) (θ := θ) hA b1 b2 b3 b4 b5 d1 d2 d3 d4 h.g (h.wr.sub sub) hcl
 have hv : VRels ρ (ki τ nt 0) a.tmps.toList := by
  have := ot h.fr nt 0 (by rw [h.sz]; omega)
  simpa using this
 have hv' : @VRels (GvS Gv.σ θ) ρt us a.tmps.toList := ae7 (fun x v p h => fwd hA q4 8 x v p h) d5 (vw (rj hA 8) g3 hv)
 have hds : @DRels (GvS Gv.σ θ) ρt ds a.defers := a9m hA q4 td (xq (rj hA 8) ld h.dr)
 have hcs : cs = cs₀ := h.um
 have key := hT (fun i => (θ i).eval Gv.σ) h99 hSA (aml hA hbd) b hb ρt a cs w q1 q2 q3 (by omega) hv' hds
 have fin : ∀ e a' cs' w', @ami (GvS Gv.σ θ) ρt (ag Li nxi) w cs ds r (ag Lo nxo) e a' cs' w' →
   Post ρ aw w nt false c₀ cs₀ (bbz (ars (ec (dz KL nxi (wnx aw).num) θ A0 8) r) (aeu (ec (dz KL nxi (wnx aw).num) θ A0 8) ds) um (.mk (w7 (ci (dz KL nxi (wnx aw).num) θ A0 Lo) (re (ci (dz KL nxi (wnx aw).num) θ A0 Li) (hOf aw))) (K.of ((wnx aw).num + (nxo - nxi))))) e a' cs' w' := by
  intro e a' cs' w' hp
  obtain ⟨p1, ρ1, hA1, p2, hp⟩ := hp
  obtain ⟨ρ', hA2, hkb⟩ := q5 ρ1 w' hA1
  have hA3 := yt h.wr h.cl sub f1 f2 b5 hA2
  have back : ∀ {us : List AV} {xs : List Value}, @VRels (GvS Gv.σ θ) ρ1 us xs → VRels ρ' (shL (ec (dz KL nxi (wnx aw).num) θ A0 8) us) xs := fun hv => agz (fun x v h => bwd hA hkb 8 x v h) hv
  subst p1 hcs
  refine a0v h.g h.cl rfl (a18 hA hkb td p2) hA3 (by rw [art]; exact hru) h512 ?_
  cases r with
  | x id us => exact ⟨hp.1, back hp.2⟩
  | r us => exact ⟨hp.1, back hp.2⟩
  | p ch us => obtain ⟨ch', h1, h2, h3⟩ := hp; exact ⟨ch', h1, ap9 hA hkb h2, back h3⟩
 exact ⟨qj key.1 fin, af1 key.2 fin⟩
theorem arq {A1 : List SA} (hA1 : SAll Gv.σ A1) {f nt : Nat} {b : Code} {τ : F} {dv : List AD} {um : UM} {aw : W} {R : R} (hR : R.ok) (hin : InF f (.loop b)) {ρ : Env} {c₀ : Frame} {cs₀ : List Frame} {a : Act} {cs : List Frame} {w : World} (h : SRel ρ nt false c₀ cs₀ τ dv um aw a cs w) :
  ∀ l : List LTD, (∀ t ∈ l, lf t) → arp A1 f nt b τ dv um aw l = some R → WS false none f PP (.loop b) (Post ρ aw w nt false c₀ cs₀ R) a cs w ∧ WL false none f PP b (Post ρ aw w nt false c₀ cs₀ R) a cs w
 | [], _, hr => by cases hr
 | .mk g k us ds nxi Li A bd r nxo Lo :: l, hl, hr => by
   have ih := arq hA1 (R := R) hR hin h l fun t hm => hl t (zA _ hm)
   simp only [arp, ac] at hr
   split at hr
   ·rename_i hc
    simp only [zU] at hc
    obtain ⟨⟨⟨⟨c1, c2⟩, c3⟩, c4⟩, c5⟩ := hc
    have c1 := zW c1
    have c2 := zW c2
    have c4 := zW c4
    have c5 := zW c5
    rw [ax] at c4 c5
    subst c1 c2
    obtain ⟨b', hb'⟩ := Option.isSome_iff_exists.1 c3
    have : b = b' := (y9 hb').2 b hin rfl
    subst this
    split at hr
    ·rename_i c ht
     injection hr with hr
     subst hr
     unfold a4a at ht
     rw [ac] at ht
     split at ht <;> try (cases ht; done)
     rename_i h99
     exact a0k (hl _ (by simp)) (anv h99) hR hb' c4 c5 h.le ht hA1 h
    ·exact ih hr
   ·exact ih hr
theorem lw {A1 : List SA} (hA1 : SAll Gv.σ A1) (l : List LTD) (hl : ∀ t ∈ l, lf t) : aa7 (beh A1 l) := by
 intro f nt d rk b τ ds um aw R hr hok
 unfold beh at hr
 split at hr
 ·rename_i heq1 heq2
  injection heq1 with e1 e2 e3 e4
  injection heq2 with e5 e6 e7 e8
  subst e1 e2 e3 e4 e5 e6 e7 e8
  exact ⟨rfl, fun hin ρ c₀ cs₀ a cs w h => arq hA1 hok hin h l hl hr⟩
 ·cases hr
end
noncomputable section
def xu (T : List (Nat × Nat)) (nxi nxo : Nat) (E : EqL) (Lo : List HO) (nt : Nat) (ds : List AD) (r : LR) (R : R) : Bool := match r, R with
 | .x id us, .x id' (.mk τ dv _ w) => bc (Nat.beq id id') (bc (ark T nxi E τ nt us) (bc (aua (leR (py T nxi) E 8) dv ds) (akm T nxi nxo E Lo w) false) false) false
 | .r us, .r (.mk τ dv _ w) => bc (ark T nxi E τ nt us) (bc (aua (leR (py T nxi) E 8) dv ds) (akm T nxi nxo E Lo w) false) false
 | .p ch us, .p ch' (.mk τ dv _ w) => bc (az1 (leR (py T nxi) E 8) ch' ch) (bc (ark T nxi E τ nt us) (bc (aua (leR (py T nxi) E 8) dv ds) (akm T nxi nxo E Lo w) false) false) false
 | _, _ => false
def aAD (A : List SA) (ds : List AD) : List AD := aeu (ec (fun k => k) GE.s A 8) ds
end
section
variable [Gv]
theorem a6m {ρ : Env} {A : List SA} (hA : SAll Gv.σ A) {ds : List AD} {l : List Deferred} (ht : acs ds = true) (h : DRels ρ ds l) : DRels ρ (aAD A ds) l :=
 a18 (σ := Gv.σ) (θ := GE.s) (ρ := ρ) (ρt := ρ) hA (fun k => aih ρ k) ht h
theorem a0f {H : ac3} (hH : oc H) {L : se} (hL : aa7 L) {n f k : Nat} {us : List AV} {ds : List AD} {nxi : Nat} {Li : List HO} {A : List SA} {r : LR} {nxo : Nat} {Lo : List HO} {T : List (Nat × Nat)} {E : EqL} (hA : SAll Gv.σ A) (hE : E.all Gv.σ) (hx : Nat.blt nxi 65536 = true)
  (ht : wz Li = true) (htd : acs ds = true) (h : xu T nxi nxo E Lo (cx us) ds r (qv (ve f k) (ad3 H L n) (.mk f (cx us) false none) (.mk (j8 (aVs A us) 0 jv) (aAD A ds) .none (ag (aHO A Li) nxi))) = true) : agq f k us ds nxi Li r nxo Lo := by
 intro b hb ρ a cs w hg hw hc h512 hv hd
 have hbody : ve f k = b := by unfold ve; rw [hb]
 rw [hbody, ax] at h
 have sub := a1t hA (nx := nxi) ht
 have hva := amj hA hv
 have hlen : a.tmps.size = us.length := by have := VRels.length _ _ hv; simpa using this
 have hla : (aVs A us).length = us.length := k9 _ _
 have hS : SRel ρ us.length false (default : Frame) cs (j8 (aVs A us) 0 jv) (aAD A ds) .none (ag (aHO A Li) nxi) a cs w :=
  ⟨hg, hw.sub sub, fun k hk => hc k hk, wj hva (by omega), hlen, h512, a6m hA htd hd, rfl⟩
 have hnum : (ag Li nxi).nx.num = nxi := bw (zE hx)
 generalize hR : qv b (ad3 H L n) (.mk f us.length false none) (.mk (j8 (aVs A us) 0 jv) (aAD A ds) .none (ag (aHO A Li) nxi)) = R at h
 have hok : R.ok := by cases R <;> first | trivial | (cases r <;> cases h)
 have key := aip (afy hH hL n) (rk := none) hS rfl (fun _ => (y9 hb).1) (by rw [hR]; exact hok)
 rw [hR] at key
 have fin : ∀ e a' cs' w', Post ρ (ag (aHO A Li) nxi) w us.length false default cs R e a' cs' w' → ami ρ (ag Li nxi) w cs ds r (ag Lo nxo) e a' cs' w' := by
  intro e a' cs' w' hp
  have slots : ∀ {ρ1 ρ2 : Env} {τ : F} {dv : List AD} {um : UM} {aw : W} {vs : List AV}, SRel ρ1 us.length false default cs τ dv um aw a' cs' w' → ark T nxi E τ us.length vs = true → (∀ k k', py T nxi k = some k' → jp ρ1 ρ2 k k') → VRels ρ2 vs a'.tmps.toList := by
   intro ρ1 ρ2 τ dv um aw vs hs hl hk
   have hv : VRels ρ1 (ki τ us.length 0) a'.tmps.toList := by
    have := ot hs.fr us.length 0 (by rw [hs.sz]; omega)
    simpa using this
   exact md (lu hE hk 8) hl hv
  cases R with
  | n S => cases r <;> cases h
  | no c f => cases r <;> cases h
  | x id' S =>
    obtain ⟨τ, dv, um, aw⟩ := S
    obtain ⟨rfl, ρ1, hA1, hS1⟩ := hp
    cases r <;> try (cases h; done)
    rename_i id vs
    simp only [xu] at h
    obtain ⟨h1, h⟩ := bcT.1 h
    obtain ⟨h2, h⟩ := bcT.1 h
    obtain ⟨h4, h3⟩ := bcT.1 h
    have h1 := zW h1
    subst h1
    obtain ⟨ρ2, hA2, hk⟩ := sk hc hnum hE h3 (hA1.left sub)
    exact ⟨hS1.um, ρ2, hA2, xq (lu hE hk 8) h4 hS1.dr, rfl, slots hS1 h2 hk⟩
  | r S =>
    obtain ⟨τ, dv, um, aw⟩ := S
    obtain ⟨rfl, ρ1, hA1, hS1⟩ := hp
    cases r <;> try (cases h; done)
    rename_i vs
    simp only [xu] at h
    obtain ⟨h2, h⟩ := bcT.1 h
    obtain ⟨h4, h3⟩ := bcT.1 h
    obtain ⟨ρ2, hA2, hk⟩ := sk hc hnum hE h3 (hA1.left sub)
    exact ⟨hS1.um, ρ2, hA2, xq (lu hE hk 8) h4 hS1.dr, rfl, slots hS1 h2 hk⟩
  | p ch S =>
    obtain ⟨τ, dv, um, aw⟩ := S
    obtain ⟨ch', ρ1, rfl, hch, hA1, hS1⟩ := hp
    cases r <;> try (cases h; done)
    rename_i ch2 vs
    simp only [xu] at h
    obtain ⟨h1, h⟩ := bcT.1 h
    obtain ⟨h2, h⟩ := bcT.1 h
    obtain ⟨h4, h3⟩ := bcT.1 h
    obtain ⟨ρ2, hA2, hk⟩ := sk hc hnum hE h3 (hA1.left sub)
    exact ⟨hS1.um, ρ2, hA2, xq (lu hE hk 8) h4 hS1.dr, ch', rfl, abl (lu hE hk 8) h1 hch, slots hS1 h2 hk⟩
 exact ⟨qj key.1 fin, af1 key.2 fin⟩
end
end Go.Ev
set_option maxRecDepth 100000
set_option linter.all false
namespace Go.Ev
section
variable [Gv]
def ji (ρ : Env) (B : K → Option (Nat × Nat)) : Env := { blk := fun k => match B k with | some p => some p.1 | none => ρ k, sz := fun k => match B k with | some p => p.2 | none => ρ.sz k, ft := ρ.ft }
theorem c8 {ρ : Env} {B : K → Option (Nat × Nat)} {k : K} {b n : Nat} (h : B k = some (b, n)) : ji ρ B k = some b ∧ (ji ρ B).sz k = n := by
 constructor
 ·show (match B k with | some p => some p.1 | none => ρ k) = _; rw [h]
 ·show (match B k with | some p => p.2 | none => ρ.sz k) = _; rw [h]
theorem ee {ρ : Env} {B : K → Option (Nat × Nat)} {k : K} (h : B k = none) : ji ρ B k = ρ k ∧ (ji ρ B).sz k = ρ.sz k := by
 constructor
 ·show (match B k with | some p => some p.1 | none => ρ k) = _; rw [h]
 ·show (match B k with | some p => p.2 | none => ρ.sz k) = _; rw [h]
structure GhOpen (kr : K) (B : K → Option (Nat × Nat)) (kd : Nat) (g : GE) (ρ : Env) (aG : W) (w : World) (c0 : Nat) (a1 : W) : Prop where
 gh : aa kr aG.h = .gob (.lh kd g)
 root : ρ kr = some c0
 low : kr.num < aG.nx.num
 nx : aG.nx.num ≤ a1.nx.num
 rng : ∀ k p, B k = some p → aG.nx.num ≤ k.num ∧ k.num < a1.nx.num
 same : ∀ k, B k = none → k ≠ kr → aa k a1.h = aa k aG.h
 blk : ∀ k b n, B k = some (b, n) → ρ.ft kr b ∧ b ≠ c0 ∧ (∀ arr t fz, w.heap[b]? = some (.cells arr t fz) → arr.size = n) ∧ ORel (ji ρ B) (aa k a1.h) w.heap[b]? ∧ aa k a1.h ≠ .none
 inj : ∀ k l b n m, B k = some (b, n) → B l = some (b, m) → k = l
 rob : ORel (ji ρ B) (aa kr a1.h) w.heap[c0]?
 ron : aa kr a1.h ≠ .none
 ror : (aa kr a1.h).isRo = false
 lh : ∀ k, bi (aa k a1.h) = none
variable {ρ ρ1 ρ2 : Env} {w w' : World} {aG a1 a2 a3 : W} {kr : K} {B : K → Option (Nat × Nat)} {kd : Nat} {g g' : GE} {c0 : Nat}
theorem GhOpen.free (h : GhOpen kr B kd g ρ aG w c0 a1) (hc : Clean ρ aG) {k : K} {p : Nat × Nat} (hk : B k = some p) : ρ k = none := hc k (h.rng k p hk).1
theorem GhOpen.kr0 (h : GhOpen kr B kd g ρ aG w c0 a1) : B kr = none := by
 cases e : B kr with
 | none => rfl
 | some p => have := (h.rng kr p e).1; have := h.low; omega
theorem GhOpen.le (h : GhOpen kr B kd g ρ aG w c0 a1) (hc : Clean ρ aG) : ρ.le (ji ρ B) := by
 intro k c hk
 cases e : B k with
 | none => rw [(ee e).1, (ee e).2]; exact ⟨hk, rfl⟩
 | some p => rw [h.free hc e] at hk; cases hk
theorem GhOpen.live (h : GhOpen kr B kd g ρ aG w c0 a1) : aa kr aG.h ≠ .none := by rw [h.gh]; intro e; cases e
theorem GhOpen.lhg (h : GhOpen kr B kd g ρ aG w c0 a1) : bi (aa kr aG.h) = some (kd, g) := by rw [h.gh]; rfl
theorem GhOpen.at (h : GhOpen kr B kd g ρ aG w c0 a1) (hw : WRel ρ aG w) : GhAt ρ aG w kr kd g := hw.gho kr kd g h.lhg
theorem GhOpen.keys (h : GhOpen kr B kd g ρ aG w c0 a1) (hw : WRel ρ aG w) (hc : Clean ρ aG) {k : K} (hk : aa k a1.h ≠ .none) {c : Nat} (e : ji ρ B k = some c) :
  (k = kr ∧ c = c0) ∨ (∃ n, B k = some (c, n) ∧ ρ.ft kr c) ∨ (k ≠ kr ∧ B k = none ∧ aa k a1.h = aa k aG.h ∧ aa k aG.h ≠ .none ∧ ρ k = some c ∧ ¬ ρ.ft kr c) := by
 by_cases e0 : k = kr
 ·subst e0
  rw [(ee h.kr0).1, h.root] at e
  injection e with e
  exact .inl ⟨rfl, e.symm⟩
 ·cases eb : B k with
  | some p =>
    obtain ⟨b, n⟩ := p
    rw [(c8 eb).1] at e
    injection e with e
    subst e
    exact .inr (.inl ⟨n, rfl, (h.blk k b n eb).1⟩)
  | none =>
    have q := h.same k eb e0
    rw [(ee eb).1] at e
    refine .inr (.inr ⟨e0, rfl, q, by rw [← q]; exact hk, e, ?_⟩)
    exact (h.at hw).sep k (by rw [← q]; exact hk) e0 c e
theorem GhOpen.own (h : GhOpen kr B kd g ρ aG w c0 a1) (hw : WRel ρ aG w) (hc : Clean ρ aG) {c : Nat} (ho : Own (ji ρ B) a1 c) : Own ρ aG c := by
 have og : ∀ c, ρ.ft kr c → Own ρ aG c := fun c hf => ⟨kr, h.live, by rw [h.gh]; rfl, .inr ⟨by rw [h.lhg]; simp, hf⟩⟩
 obtain ⟨k, k1, k2, k3⟩ := ho
 rcases k3 with k3 | ⟨k3, _⟩
 ·rcases h.keys hw hc k1 k3 with ⟨rfl, rfl⟩ | ⟨n, _, hf⟩ | ⟨_, _, q1, q2, q3, _⟩
  ·exact ⟨_, h.live, by rw [h.gh]; rfl, .inl h.root⟩
  ·exact og c hf
  ·exact ⟨k, q2, by rw [← q1]; exact k2, .inl q3⟩
 ·exact absurd (h.lh k) k3
theorem GhOpen.rel (h : GhOpen kr B kd g ρ aG w c0 a1) (hw : WRel ρ aG w) (hc : Clean ρ aG) : WRel (ji ρ B) a1 w := by
 have q := h.at hw
 have dom : ∀ k, aa k a1.h ≠ .none → ∃ c, ji ρ B k = some c ∧ ORel (ji ρ B) (aa k a1.h) w.heap[c]? := by
  intro k hk
  by_cases e0 : k = kr
  ·subst e0
   exact ⟨c0, by rw [(ee h.kr0).1]; exact h.root, h.rob⟩
  ·cases eb : B k with
   | some p =>
     obtain ⟨b, n⟩ := p
     exact ⟨b, (c8 eb).1, (h.blk k b n eb).2.2.2.1⟩
   | none =>
     have e := h.same k eb e0
     rw [e] at hk ⊢
     obtain ⟨c, q1, q2⟩ := hw.dom k hk
     exact ⟨c, by rw [(ee eb).1]; exact q1, q2.mono (h.le hc)⟩
 refine ⟨fun k l hk hl e => ?_, dom, fun k c arr t fz hk e hh => ?_, fun k kd' g' e => ?_⟩
 ·obtain ⟨c, e1, _⟩ := dom k hk
  have e2 : ji ρ B l = some c := by rw [← e]; exact e1
  rcases h.keys hw hc hk e1 with ⟨rfl, hcc⟩ | ⟨n, hb, hf⟩ | ⟨x0, x1, x2, x3, x4, x5⟩ <;> rcases h.keys hw hc hl e2 with ⟨rfl, hcl⟩ | ⟨m, hbl, hfl⟩ | ⟨y0, y1, y2, y3, y4, y5⟩
  ·exact .inl rfl
  ·exact absurd hcc (h.blk l c m hbl).2.1
  ·subst hcc; exact absurd (q.root _ h.root) y5
  ·exact absurd hcl (h.blk k c n hb).2.1
  ·exact .inl (h.inj k l c n m hb hbl)
  ·exact absurd hf y5
  ·subst hcl; exact absurd (q.root _ h.root) x5
  ·exact absurd hfl x5
  ·rw [x2, y2]
   exact hw.inj k l x3 y3 (by rw [x4, y4])
 ·rcases h.keys hw hc hk e with ⟨rfl, hcc⟩ | ⟨n, hb, hf⟩ | ⟨x0, x1, x2, x3, x4, x5⟩
  ·subst hcc
   rw [(ee h.kr0).2]
   exact hw.len _ _ arr t fz h.live h.root hh
  ·rw [(c8 hb).2]
   exact (h.blk k c n hb).2.2.1 arr t fz hh
  ·rw [(ee x1).2]
   exact hw.len k c arr t fz x3 x4 hh
 ·rw [h.lh k] at e; cases e
theorem GhOpen.clean (h : GhOpen kr B kd g ρ aG w c0 a1) (hc : Clean ρ aG) : Clean (ji ρ B) a1 := by
 intro k hk
 cases eb : B k with
 | some p => have := (h.rng k p eb).2; omega
 | none => rw [(ee eb).1]; exact hc k (by have := h.nx; omega)
theorem GhOpen.grel (h : GhOpen kr B kd g ρ aG w c0 a1) (hc : Clean ρ aG) (hg : GRel ρ) (h255 : 256 ≤ aG.nx.num) : GRel (ji ρ B) := by
 intro n hn
 cases eb : B (K.of n) with
 | some p => have := (h.rng _ p eb).1; rw [bw (by omega)] at this; omega
 | none => rw [(ee eb).1]; exact hg n hn
theorem GhOpen.frame (h : GhOpen kr B kd g ρ aG w c0 a1) (hw : WRel ρ aG w) (hc : Clean ρ aG) (hA : Adv (ji ρ B) a1 w ρ2 a2 w') {b : Nat} (hb : ρ.ft kr b) (h0 : b ≠ c0) (hro : ∀ k n, B k = some (b, n) → (aa k a1.h).isRo = true) : w'.heap[b]? = w.heap[b]? := by
 refine hA.frame b ((h.at hw).lt b hb) ?_
 rintro ⟨k, k1, k2, k3⟩
 rcases k3 with k3 | ⟨k3, _⟩
 ·rcases h.keys hw hc k1 k3 with ⟨_, e⟩ | ⟨n, hbn, _⟩ | ⟨_, _, _, _, _, x5⟩
  ·exact h0 e
  ·rw [hro k n hbn] at k2; cases k2
  ·exact x5 hb
 ·exact absurd (h.lh k) k3
theorem GhOpen.old (h : GhOpen kr B kd g ρ aG w c0 a1) (hw : WRel ρ aG w) (hc : Clean ρ aG) (hA : Adv (ji ρ B) a1 w ρ2 a2 w') (hk2 : aa kr a2.h ≠ .none)
  {k : K} (hk : aa k a2.h ≠ .none) (hr : (aa k a2.h).isRo = false) {c : Nat} (e : ρ2 k = some c) (hf : ρ.ft kr c) : k = kr ∨ ∃ l n, B l = some (c, n) ∧ (aa l a2.h ≠ .none → k = l) := by
 have at2 : ∀ l c, ji ρ B l = some c → ρ2 l = some c := fun l c x => (hA.le l c x).1
 rcases hA.keep k c hk e with ⟨l, l1, l2⟩ | hsz
 ·rcases h.keys hw hc l1 l2 with ⟨rfl, rfl⟩ | ⟨n, hbn, _⟩ | ⟨_, _, _, _, _, x5⟩
  ·left
   exact hA.rel.inj1 hk hk2 (.inl hr) (by rw [e, at2 _ _ l2])
  ·exact .inr ⟨l, n, hbn, fun hl => hA.rel.inj1 hk hl (.inl hr) (by rw [e, at2 _ _ l2])⟩
  ·exact absurd hf x5
 ·have := (h.at hw).lt c hf
  omega
theorem GhOpen.shut (h : GhOpen kr B kd g ρ aG w c0 a1) (hw : WRel ρ aG w) (hc : Clean ρ aG) (hA : Adv (ji ρ B) a1 w ρ2 a2 w') {S : K → Prop} {F' : Nat → Prop}
  (hk2 : aa kr a2.h ≠ .none) (hkr : (aa kr a2.h).isRo = false) (hB2 : ∀ l, B l ≠ none → S l)
  (h3x : a3.nx = a2.nx) (h3r : aa kr a3.h = .gob (.lh kd g')) (h3 : ∀ k, k ≠ kr → aa k a3.h ≠ .none → aa k a3.h = aa k a2.h ∧ ¬ S k ∧ bi (aa k a2.h) = none ∧ (((aa k a2.h).isRo = false ∧ ∀ l, B l ≠ none → aa l a2.h ≠ .none) ∨ aa k aG.h ≠ .none))
  (hF0 : F' c0) (hFr : ah4 kd (g'.eval Gv.σ) c0 F' w'.heap) (hFo : ∀ c, F' c → ρ.ft kr c ∨ ∃ k, S k ∧ k ≠ kr ∧ aa k a2.h ≠ .none ∧ (aa k a2.h).isRo = false ∧ ρ2 k = some c) :
  ∃ ρ3, Adv ρ aG w ρ3 a3 w' ∧ ρ2.le ρ3 := by
 have q := h.at hw
 have hle := h.le hc
 have at2 : ∀ l c, ji ρ B l = some c → ρ2 l = some c := fun l c x => (hA.le l c x).1
 have kr1 : ji ρ B kr = some c0 := by rw [(ee h.kr0).1]; exact h.root
 have kr2 : ρ2 kr = some c0 := at2 _ _ kr1
 have kept : ∀ k, k ≠ kr → aa k a3.h ≠ .none → aa k a2.h ≠ .none := fun k e hk => by rw [← (h3 k e hk).1]; exact hk
 have notold : ∀ k, k ≠ kr → aa k a3.h ≠ .none → ∀ c, ρ2 k = some c → ¬ ρ.ft kr c := by
  intro k e hk c hcc hf
  obtain ⟨x1, x2, x3, x4⟩ := h3 k e hk
  rcases x4 with ⟨x4, x5⟩ | x4
  ·rcases h.old hw hc hA hk2 (kept k e hk) x4 hcc hf with z | ⟨l, n, hb, z⟩
   ·exact e z
   ·have hb' : B l ≠ none := by rw [hb]; simp
    have := z (x5 l hb')
    subst this
    exact x2 (hB2 _ hb')
  ·obtain ⟨d, hd, _⟩ := hw.dom k x4
   have := at2 k d (hle k d hd).1
   rw [hcc] at this; obtain rfl := Option.some.inj this
   exact q.sep k x4 e c hd hf
 have notnew : ∀ k, k ≠ kr → aa k a3.h ≠ .none → ∀ c, ρ2 k = some c → ¬ F' c := by
  intro k e hk c hcc hf
  rcases hFo c hf with z | ⟨s, s1, s2, s3, s4, s5⟩
  ·exact notold k e hk c hcc z
  ·have : k = s := hA.rel.inj1 (kept k e hk) s3 (.inr s4) (by rw [hcc, s5])
   subst this
   exact (h3 k e hk).2.1 s1
 have hle3 : ρ2.le { ρ2 with ft := fun l => if l = kr then F' else ρ2.ft l } := fun k c h => ⟨h, rfl⟩
 have ft0 : ({ ρ2 with ft := fun l => if l = kr then F' else ρ2.ft l } : Env).ft kr = F' := by show (if kr = kr then F' else ρ2.ft kr) = F'; rw [if_pos rfl]
 have lh3 : ∀ k, k ≠ kr → bi (aa k a3.h) = none := by
  intro k e
  by_cases hk : aa k a3.h = .none
  ·rw [hk]; rfl
  ·rw [(h3 k e hk).1]; exact (h3 k e hk).2.2.1
 have own2 : ∀ c, Own ρ2 a2 c → Own ρ aG c ∨ w.heap.size ≤ c := by
  intro c ho
  rcases hA.own c ho with z | z
  ·exact .inl (h.own hw hc z)
  ·exact .inr z
 have ownF : ∀ c, F' c → Own ρ aG c ∨ w.heap.size ≤ c := by
  intro c hf
  rcases hFo c hf with z | ⟨s, s1, s2, s3, s4, s5⟩
  ·exact .inl ⟨kr, h.live, by rw [h.gh]; rfl, .inr ⟨by rw [h.lhg]; simp, z⟩⟩
  ·exact own2 c ⟨s, s3, s4, .inl s5⟩
 refine ⟨{ ρ2 with ft := fun l => if l = kr then F' else ρ2.ft l }, ⟨⟨?_, ?_, ?_, ?_⟩, Env.le_trans (Env.le_trans hle hA.le) hle3, ?_, ?_, hA.size, ?_, ?_, ?_, ?_, hA.os, hA.tape, hA.output⟩, hle3⟩
 ·intro k l hk hl e
  have e : ρ2 k = ρ2 l := e
  by_cases ek : k = kr
  ·by_cases el : l = kr
   ·exact .inl (ek.trans el.symm)
   ·subst ek
    exact .inl (hA.rel.inj1 hk2 (kept l el hl) (.inl hkr) e)
  ·by_cases el : l = kr
   ·subst el
    exact .inl (hA.rel.inj1 (kept k ek hk) hk2 (.inr hkr) e)
   ·rw [(h3 k ek hk).1, (h3 l el hl).1]
    exact hA.rel.inj k l (kept k ek hk) (kept l el hl) e
 ·intro k hk
  by_cases ek : k = kr
  ·subst ek
   refine ⟨c0, kr2, ?_⟩
   obtain ⟨c, e1, e2⟩ := hA.rel.dom k hk2
   rw [kr2] at e1; injection e1 with e1; subst e1
   obtain ⟨y, hy⟩ := e2.some hk2
   rw [h3r]
   exact ⟨y, hy⟩
  ·obtain ⟨c, e1, e2⟩ := hA.rel.dom k (kept k ek hk)
   rw [(h3 k ek hk).1]
   exact ⟨c, e1, e2.mono hle3⟩
 ·intro k c arr t fz hk e hh
  by_cases ek : k = kr
  ·subst ek; exact hA.rel.len k c arr t fz hk2 e hh
  ·exact hA.rel.len k c arr t fz (kept k ek hk) e hh
 ·intro k kd' gg e
  by_cases ek : k = kr
  ·subst ek
   rw [h3r] at e
   injection e with e
   injection e with e1 e2
   subst e1 e2
   refine ⟨?_, ?_, ?_, ?_, ?_⟩
   ·intro c hcc
    have hcc : ρ2 k = some c := hcc
    rw [kr2] at hcc; obtain rfl := Option.some.inj hcc
    rw [ft0]; exact hF0
   ·intro c hcc
    have hcc : ρ2 k = some c := hcc
    rw [kr2] at hcc; obtain rfl := Option.some.inj hcc
    rw [ft0]; exact hFr
   ·intro c hf
    rw [ft0] at hf
    rcases hFo c hf with z | ⟨s, s1, s2, s3, s4, s5⟩
    ·have := q.lt c z; have := hA.size; omega
    ·obtain ⟨d, d1, d2⟩ := hA.rel.dom s s3
     rw [s5] at d1; injection d1 with d1; subst d1
     obtain ⟨y, hy⟩ := d2.some s3
     exact (zI.1 hy).1
   ·intro l hl hn c hlc
    rw [ft0]
    exact notnew l hn hl c hlc
   ·intro l hl hn
    exact absurd (lh3 l hn) hl
  ·rw [lh3 k ek] at e; cases e
 ·intro k
  show ρ2 k = ρ k ∨ _
  rw [h3x]
  have h1 := hA.rng k
  have h2 := hA.nx
  have h4 := h.nx
  rcases h1 with e | e
  ·cases eb : B k with
   | some p => have := h.rng k p eb; exact .inr ⟨this.1, by omega⟩
   | none => rw [(ee eb).1] at e; exact .inl e
  ·exact .inr (by omega)
 ·rw [h3x]
  have h2 := hA.nx
  have h4 := h.nx
  omega
 ·rintro c ⟨k, k1, k2, k3⟩
  by_cases ek : k = kr
  ·subst ek
   rcases k3 with k3 | ⟨_, k3⟩
   ·have k3 : ρ2 k = some c := k3
    rw [kr2] at k3; injection k3 with k3; subst k3
    exact ownF c0 hF0
   ·rw [ft0] at k3
    exact ownF c k3
  ·rcases k3 with k3 | ⟨k3, _⟩
   ·exact own2 c ⟨k, kept k ek k1, by rw [← (h3 k ek k1).1]; exact k2, .inl k3⟩
   ·exact absurd (lh3 k ek) k3
 ·intro k c hk e
  have e : ρ2 k = some c := e
  by_cases ek : k = kr
  ·subst ek
   rw [kr2] at e; injection e with e; subst e
   exact .inl ⟨k, h.live, h.root⟩
  ·rcases hA.keep k c (kept k ek hk) e with ⟨l, l1, l2⟩ | z
   ·rcases h.keys hw hc l1 l2 with ⟨rfl, rfl⟩ | ⟨n, hbn, hf⟩ | ⟨_, _, _, x3, x4, _⟩
    ·exact .inl ⟨_, h.live, h.root⟩
    ·exact absurd hf (notold k ek hk c e)
    ·exact .inl ⟨l, x3, x4⟩
   ·exact .inr z
 ·intro c hcc hn
  exact hA.frame c hcc fun z => hn (h.own hw hc z)
 ·intro k hk hl
  have n0 : k ≠ kr := by rintro rfl; rw [h.lhg] at hl; cases hl
  have z := hA.fts k (by have := h.nx; omega) (h.lh k)
  refine ⟨?_, lh3 k n0⟩
  show (if k = kr then F' else ρ2.ft k) = _
  rw [if_neg n0, z.1]; rfl
end
end Go.Ev
set_option maxRecDepth 100000
set_option linter.all false
namespace Go.Ev
def mkL : Nat → List LO → List HO
 | _, [] => []
 | n, o :: l => .mk n o :: mkL (n + 1) l
noncomputable def dh {α : Type} (n : Nat) (l : List α) (k : K) : Option α := if n ≤ k.num then l[k.num - n]? else none
section
variable [Gv]
theorem af (n : Nat) (o : LO) (L : List HO) (k : K) : aa k (ab (.mk n o :: L)) = if k = K.of n then bu o else aa k (ab L) := by
 simp only [ab]
 by_cases e : k = K.of n
 ·rw [e, if_pos rfl, ai]
 ·rw [if_neg e, az e]
theorem uz {α : Type} {n : Nat} {l : List α} {k : K} {a : α} (h : dh n l k = some a) : n ≤ k.num ∧ k.num < n + l.length := by
 unfold dh at h
 split at h
 ·rename_i q
  have := (List.getElem?_eq_some_iff.1 h).1
  exact ⟨q, by omega⟩
 ·cases h
theorem a4n {α β : Type} {n : Nat} {l : List α} {m : List β} (e : l.length = m.length) {k : K} (h : dh n l k = none) : dh n m k = none := by
 unfold dh at h ⊢
 split at h
 ·rename_i q
  rw [if_pos q]
  rw [List.getElem?_eq_none_iff] at h ⊢
  omega
 ·rename_i q; rw [if_neg q]
theorem aic : ∀ (los : List LO) (n : Nat) (L : List HO) (k : K), n + los.length ≤ 65536 → aa k (ab (mkL n los ++ L)) = match dh n los k with | some o => bu o | none => aa k (ab L)
 | [], n, L, k, _ => by
   have : dh n ([] : List LO) k = none := by unfold dh; split <;> rfl
   rw [this]; rfl
 | o :: los, n, L, k, h => by
   simp only [zO] at h
   show aa k (ab (.mk n o :: (mkL (n + 1) los ++ L))) = _
   rw [af, aic los (n + 1) L k (by omega)]
   have hn : (K.of n).num = n := bw (by omega)
   by_cases e : k = K.of n
   ·have e2 : k.num = n := by rw [e]; exact hn
    have : dh n (o :: los) k = some o := by unfold dh; rw [if_pos (by omega), e2, Nat.sub_self]; rfl
    rw [if_pos e, this]
   ·have e2 : k.num ≠ n := fun q => e (by rw [← q, ady])
    rw [if_neg e]
    have : dh n (o :: los) k = dh (n + 1) los k := by
     unfold dh
     by_cases q : n ≤ k.num
     ·rw [if_pos q, if_pos (show n + 1 ≤ k.num by omega), show k.num - n = (k.num - (n + 1)) + 1 by omega]; rfl
     ·rw [if_neg q, if_neg (by omega)]
    rw [this]
def agp (nxi : Nat) (L : List HO) : Prop := ∀ n o, HO.mk n o ∈ L → 257 ≤ n ∧ n < nxi ∧ bi (bu o) = none
theorem azt {nxi : Nat} (hx : nxi ≤ 65535) {L : List HO} (hL : agp nxi L) {k : K} (h : aa k (ab L) ≠ .none) : (257 ≤ k.num ∧ k.num < nxi ∨ k.num ≤ 255) ∧ bi (aa k (ab L)) = none := by
 rcases iu k L h with ⟨n, o, q1, q2, q3⟩ | ⟨g, cs, q1, q2, q3⟩
 ·obtain ⟨a, b, c⟩ := hL n o q1
  subst q2
  rw [bw (by omega), q3]
  exact ⟨.inl ⟨a, b⟩, c⟩
 ·rw [q3]
  refine ⟨.inr ?_, rfl⟩
  subst q2
  obtain ⟨f1, f2, f3⟩ := ju _ je g cs q1
  rw [bw (by omega)]; omega
theorem q9 {kd nxi : Nat} {g : GE} {root : LO} {los : List LO} {Lr : List HO} {bs : List (Nat × Nat)} {ρ : Env} {w : World} {c0 : Nat}
  (hi : 257 ≤ nxi) (hx : nxi + los.length ≤ 65535) (hlen : bs.length = los.length) (hL : agp nxi Lr) (hr : bi (bu root) = none) (hro : (bu root).isRo = false) (hl : ∀ o ∈ los, bi (bu o) = none)
  (hc0 : ρ (K.of 256) = some c0)
  (hb : ∀ i (h : i < los.length) (h' : i < bs.length), ρ.ft (K.of 256) bs[i].1 ∧ bs[i].1 ≠ c0 ∧ (∀ arr t fz, w.heap[bs[i].1]? = some (.cells arr t fz) → arr.size = bs[i].2) ∧ ORel (ji ρ (dh nxi bs)) (bu los[i]) w.heap[bs[i].1]?)
  (hd : ∀ i j (h : i < bs.length) (h' : j < bs.length), bs[i].1 = bs[j].1 → i = j)
  (hrt : ORel (ji ρ (dh nxi bs)) (bu root) w.heap[c0]?) :
  GhOpen (K.of 256) (dh nxi bs) kd g ρ (ag (.mk 256 (.gob (.lh kd g)) :: Lr) nxi) w c0 (ag (.mk 256 root :: (mkL nxi los ++ Lr)) (nxi + los.length)) := by
 have n256 : (K.of 256).num = 256 := bw (by omega)
 have nx0 : (ag (.mk 256 (.gob (.lh kd g)) :: Lr) nxi).nx.num = nxi := bw (by omega)
 have nx1 : (ag (.mk 256 root :: (mkL nxi los ++ Lr)) (nxi + los.length)).nx.num = nxi + los.length := bw (by omega)
 have at1 : ∀ k, k ≠ K.of 256 → aa k (ab (.mk 256 root :: (mkL nxi los ++ Lr))) = match dh nxi los k with | some o => bu o | none => aa k (ab Lr) := by
  intro k e
  rw [af, if_neg e, aic los nxi Lr k (by omega)]
 have at0 : aa (K.of 256) (ab (.mk 256 root :: (mkL nxi los ++ Lr))) = bu root := by rw [af, if_pos rfl]
 have get : ∀ k b n, dh nxi bs k = some (b, n) → ∃ i, ∃ (h : i < los.length) (h' : i < bs.length), k.num = nxi + i ∧ bs[i] = (b, n) ∧ dh nxi los k = some los[i] ∧ k ≠ K.of 256 := by
  intro k b n e
  have r := uz e
  refine ⟨k.num - nxi, by omega, by omega, by omega, ?_, ?_, ?_⟩
  ·unfold dh at e
   rw [if_pos r.1] at e
   exact (List.getElem?_eq_some_iff.1 e).2
  ·unfold dh
   rw [if_pos r.1]
   exact zK _
  ·rintro rfl; omega
 refine ⟨?_, hc0, by rw [n256, nx0]; omega, by rw [nx0, nx1]; omega, ?_, ?_, ?_, ?_, ?_, ?_, ?_, ?_⟩
 ·show aa _ (ab _) = _
  rw [af, if_pos rfl]; rfl
 ·intro k p e
  have := uz e
  rw [nx0, nx1]; omega
 ·intro k e e0
  show aa k (ab _) = aa k (ab _)
  rw [at1 k e0, a4n hlen e, af, if_neg e0]
 ·intro k b n e
  obtain ⟨i, h, h', q1, q2, q3, q4⟩ := get k b n e
  obtain ⟨r1, r2, r3, r4⟩ := hb i h h'
  rw [q2] at r1 r2 r3 r4
  refine ⟨r1, r2, r3, ?_, ?_⟩
  ·show ORel _ (aa k (ab _)) _
   rw [at1 k q4, q3]; exact r4
  ·show aa k (ab _) ≠ _
   rw [at1 k q4, q3]; exact c7 _
 ·intro k l b n m e1 e2
  obtain ⟨i, h, h', q1, q2, _⟩ := get k b n e1
  obtain ⟨j, s, s', p1, p2, _⟩ := get l b m e2
  have := hd i j h' s' (by rw [q2, p2])
  subst this
  rw [← ady k, ← ady l, q1, p1]
 ·show ORel _ (aa _ (ab _)) _
  rw [at0]; exact hrt
 ·show aa _ (ab _) ≠ _
  rw [at0]; exact c7 _
 ·show (aa _ (ab _)).isRo = false
  rw [at0]; exact hro
 ·intro k
  show bi (aa k (ab _)) = none
  by_cases e : k = K.of 256
  ·subst e; rw [at0]; exact hr
  ·rw [at1 k e]
   cases q : dh nxi los k with
   | some o =>
     refine hl o ?_
     unfold dh at q
     split at q
     ·exact List.mem_of_getElem? q
     ·cases q
   | none =>
     by_cases e2 : aa k (ab Lr) = .none
     ·show bi (aa k (ab Lr)) = none
      rw [e2]; rfl
     ·exact (azt (by omega) hL e2).2
theorem aio {L : List HO} {n : Nat} {o : LO} (h : HO.mk n o ∈ L) : aa (K.of n) (ab L) ≠ .none := by
 induction L with
 | nil => cases h
 | cons x L ih =>
   obtain ⟨m, p⟩ := x
   rw [af]
   split
   ·exact c7 _
   ·rename_i e
    rcases List.mem_cons.1 h with q | q
    ·injection q with q1 q2; subst q1; exact absurd rfl e
    ·exact ih q
theorem a32 {L : List HO} {k : K} (h : aa k (lq laidL) ≠ .none) : aa k (ab L) ≠ .none := by
 induction L with
 | nil => exact h
 | cons x L ih =>
   obtain ⟨m, p⟩ := x
   rw [af]
   split
   ·exact c7 _
   ·exact ih
theorem arf {z : Nat} {cs : List AV} : ∀ l, LE.mk z cs ∈ l → aa (K.of z) (lq l) ≠ .none
 | [], h => by cases h
 | .mk g c :: l, h => by
   simp only [lq]
   by_cases e : K.of z = K.of g
   ·rw [e, ai]; intro q; cases q
   ·rw [az e]
    rcases List.mem_cons.1 h with q | q
    ·injection q with q1 q2; subst q1; exact absurd rfl e
    ·exact arf l q
theorem aq6 {L M : List HO} {k : K} (h : ∀ n o, HO.mk n o ∈ L → k ≠ K.of n) : aa k (ab (L ++ M)) = aa k (ab M) := by
 induction L with
 | nil => rfl
 | cons x L ih =>
   obtain ⟨m, p⟩ := x
   show aa k (ab (.mk m p :: (L ++ M))) = _
   rw [af, if_neg (h m p (List.mem_cons_self ..)), ih fun n o q => h n o (zA _ q)]
def atg (nxi m : Nat) (Lr outS Lo : List HO) : Prop := ∀ n o, HO.mk n o ∈ Lo → 257 ≤ n ∧ n ≤ 65535 ∧ bi (bu o) = none ∧ (∀ n' o', HO.mk n' o' ∈ outS → n ≠ n') ∧
 (n < nxi ∧ (∃ o', HO.mk n o' ∈ Lr) ∨ nxi + m ≤ n ∧ (bu o).isRo = false ∧ ∀ i, i < m → ∃ o', HO.mk (nxi + i) o' ∈ outS)
theorem vq {kd nxi nxo : Nat} {g g' : GE} {root root' : LO} {los : List LO} {Lr outS Lo : List HO} {bs : List (Nat × Nat)} {ρ ρ2 : Env} {w w' : World} {c0 : Nat} {F' : Nat → Prop}
  (hi : 257 ≤ nxi) (hx : nxi + los.length ≤ 65535) (hlen : bs.length = los.length)
  (hO : GhOpen (K.of 256) (dh nxi bs) kd g ρ (ag (.mk 256 (.gob (.lh kd g)) :: Lr) nxi) w c0 (ag (.mk 256 root :: (mkL nxi los ++ Lr)) (nxi + los.length)))
  (hw : WRel ρ (ag (.mk 256 (.gob (.lh kd g)) :: Lr) nxi) w) (hc : Clean ρ (ag (.mk 256 (.gob (.lh kd g)) :: Lr) nxi))
  (hA : Adv (ji ρ (dh nxi bs)) (ag (.mk 256 root :: (mkL nxi los ++ Lr)) (nxi + los.length)) w ρ2 (ag (.mk 256 root' :: (outS ++ Lo)) nxo) w')
  (hro : (bu root').isRo = false) (hS : ∀ n o, HO.mk n o ∈ outS → 257 ≤ n ∧ n ≤ 65535) (hK : atg nxi los.length Lr outS Lo)
  (hF0 : F' c0) (hFr : ah4 kd (g'.eval Gv.σ) c0 F' w'.heap)
  (hFo : ∀ c, F' c → ρ.ft (K.of 256) c ∨ ∃ n o, HO.mk n o ∈ outS ∧ (aa (K.of n) (ab (outS ++ Lo))).isRo = false ∧ ρ2 (K.of n) = some c) :
  ∃ ρ3, Adv ρ (ag (.mk 256 (.gob (.lh kd g)) :: Lr) nxi) w ρ3 (ag (.mk 256 (.gob (.lh kd g')) :: Lo) nxo) w' ∧ ρ2.le ρ3 := by
 have n256 : (K.of 256).num = 256 := bw (by omega)
 have ne : ∀ n, 257 ≤ n → n ≤ 65535 → K.of n ≠ K.of 256 := by
  intro n h1 h2 e
  have := congrArg K.num e
  rw [n256, bw (by omega)] at this
  omega
 have at2 : ∀ k, k ≠ K.of 256 → aa k (ab (.mk 256 root' :: (outS ++ Lo))) = aa k (ab (outS ++ Lo)) := fun k e => by rw [af, if_neg e]
 have at20 : aa (K.of 256) (ab (.mk 256 root' :: (outS ++ Lo))) = bu root' := by rw [af, if_pos rfl]
 refine hO.shut (S := fun k => (∃ n o, HO.mk n o ∈ outS ∧ k = K.of n) ∨ dh nxi bs k ≠ none) hw hc hA ?_ ?_ (fun l h => .inr h) rfl ?_ ?_ hF0 hFr ?_
 ·show aa _ (ab _) ≠ _
  rw [at20]; exact c7 _
 ·show (aa _ (ab _)).isRo = false
  rw [at20]; exact hro
 ·show aa _ (ab _) = _
  rw [af, if_pos rfl]; rfl
 ·intro k e hk
  have hk : aa k (ab (.mk 256 (.gob (.lh kd g')) :: Lo)) ≠ .none := hk
  show aa k (ab (.mk 256 (.gob (.lh kd g')) :: Lo)) = aa k (ab (.mk 256 root' :: (outS ++ Lo))) ∧ _ ∧ bi (aa k (ab (.mk 256 root' :: (outS ++ Lo)))) = none ∧ (((aa k (ab (.mk 256 root' :: (outS ++ Lo)))).isRo = false ∧ _) ∨ aa k (ab (.mk 256 (.gob (.lh kd g)) :: Lr)) ≠ .none)
  rw [af, if_neg e] at hk
  rw [af, if_neg e, at2 k e]
  rcases iu k Lo hk with ⟨n, o, q1, q2, q3⟩ | ⟨z, cs, q1, q2, q3⟩
  ·obtain ⟨k1, k2, k3, k4, k5⟩ := hK n o q1
   have hn : (K.of n).num = n := bw (by omega)
   have notS : ∀ n' o', HO.mk n' o' ∈ outS → k ≠ K.of n' := by
    intro n' o' hm e'
    have := hS n' o' hm
    rw [q2] at e'
    have e' := congrArg K.num e'
    rw [hn, bw (by omega)] at e'
    exact k4 n' o' hm e'
   rw [aq6 notS]
   refine ⟨rfl, ?_, by rw [q3]; exact k3, ?_⟩
   ·rintro (⟨n', o', hm, e'⟩ | hb)
    ·exact notS n' o' hm e'
    ·cases eb : dh nxi bs k with
     | none => exact hb eb
     | some p =>
       have := uz eb
       rw [q2, hn] at this
       rcases k5 with ⟨k5, _⟩ | ⟨k5, _⟩ <;> omega
   ·rcases k5 with ⟨_, o', hm⟩ | ⟨_, k6, k7⟩
    ·right
     rw [af, if_neg e, q2]
     exact aio hm
    ·left
     refine ⟨by rw [q3]; exact k6, fun l hl => ?_⟩
     cases eb : dh nxi bs l with
     | none => exact absurd eb hl
     | some p =>
       have r := uz eb
       obtain ⟨o', hm⟩ := k7 (l.num - nxi) (by omega)
       have el : l = K.of (nxi + (l.num - nxi)) := by rw [show nxi + (l.num - nxi) = l.num by omega, ady]
       show aa l (ab _) ≠ _
       rw [at2 l (by rw [el]; exact ne _ (by omega) (by omega)), el]
       exact aio (List.mem_append_left _ hm)
  ·have hlay : aa k (lq laidL) ≠ .none := by rw [q2]; exact arf _ q1
   have hz : k.num ≤ 255 := by obtain ⟨_, _, _, _, _, h, _⟩ := o7 hlay; exact h
   have notS : ∀ n' o', HO.mk n' o' ∈ outS → k ≠ K.of n' := by
    intro n' o' hm e'
    have := hS n' o' hm
    rw [e', bw (by omega)] at hz
    omega
   rw [aq6 notS]
   refine ⟨rfl, ?_, by rw [q3]; rfl, .inr ?_⟩
   ·rintro (⟨n', o', hm, e'⟩ | hb)
    ·exact notS n' o' hm e'
    ·cases eb : dh nxi bs k with
     | none => exact hb eb
     | some p => have := uz eb; omega
   ·exact a32 hlay
 ·intro c hf
  rcases hFo c hf with z | ⟨n, o, z1, z2, z3⟩
  ·exact .inl z
  ·have := hS n o z1
   have e := ne n this.1 this.2
   refine .inr ⟨K.of n, .inl ⟨n, o, z1, rfl⟩, e, ?_, ?_, z3⟩
   ·show aa _ (ab _) ≠ _
    rw [at2 _ e]; exact aio (List.mem_append_left _ z1)
   ·show (aa _ (ab _)).isRo = false
    rw [at2 _ e]; exact z2
end
end Go.Ev
set_option maxRecDepth 100000
set_option linter.all false
namespace Go.Ev
def acn : List Int → GE
 | [] => .nil
 | z :: l => .cat (.one (.c z)) (acn l)
theorem ad2 {σ : Nat → List Int} : ∀ l, (acn l).eval σ = l
 | [] => by simp only [acn, GE.eval]
 | z :: l => by simp only [acn, GE.eval, SE.eval, ad2 l, List.singleton_append]
noncomputable def ad7 (c : GE) (i : Nat) : GE := bc (Nat.beq i 90) c (.s i)
theorem a8k {c : GE} {i : Nat} (h : i ≠ 90) : ad7 c i = .s i := by
 unfold ad7
 rw [ac, if_neg (fun e => h (zW e))]
set_option maxHeartbeats 1000000 in
theorem aqp {σ : Nat → List Int} {f nxi nxo : Nat} {us : List AV} {Li Lo : List HO} {r : TR} {KL : List (Nat × Nat)} (Q : List Int → Nat → Array Obj → Prop)
  (b1 : 256 ≤ nxi) (b2 : nxi ≤ nxo) (b3 : nxo ≤ 65535) (hd : oe KL = true) (hr : aaz nxi KL = true) (hold : ai3 KL nxi Li = true) (hnew : aix KL nxi nxo Lo = true) (hus : w9 (oa 8) us = true)
  (kid : dz KL nxi nxi (K.of 256) = K.of 256) (live : aa (K.of 256) (ab Li) ≠ .none)
  (eLi : ∀ c, ci (dz KL nxi nxi) (ad7 c) [] Li = Li) (eLo : ∀ c, ci (dz KL nxi nxi) (ad7 c) [] Lo = Lo)
  (eus : ∀ c, shL (ec (dz KL nxi nxi) (ad7 c) [] 8) us = us) (er : ∀ c, a97 (ec (dz KL nxi nxi) (ad7 c) [] 8) r = r)
  (hQ : ∀ ρ w c0, @WRel ⟨σ⟩ ρ (ag Li nxi) w → ρ (K.of 256) = some c0 → ∃ codes, Q codes c0 w.heap)
  (h : ∀ σ' : Nat → List Int, (∀ i, i ≠ 90 → σ' i = σ i) → ∀ ρ args w c0, @GRel ρ → @WRel ⟨σ'⟩ ρ (ag Li nxi) w → @Clean ρ (ag Li nxi) → @VRels ⟨σ'⟩ ρ us args.toList → ρ (K.of 256) = some c0 → Q (σ' 90) c0 w.heap →
    Calls PP f args w (@CPost ⟨σ'⟩ ρ (ag Li nxi) w (az3 r (ag Lo nxo)))) : @di ⟨σ⟩ f us nxi Li r nxo Lo := by
 intro ρ args w hg hw hc hv
 obtain ⟨c0, hc0, _⟩ := @WRel.dom ⟨σ⟩ _ _ _ hw (K.of 256) live
 obtain ⟨codes, hq⟩ := hQ ρ w c0 hw hc0
 have hA : SAll σ [] := SAll.nil
 have hw' := hw
 have hc' := hc
 rw [← eLi (acn codes)] at hw' hc'
 obtain ⟨ρt, q1, q2, q3, q4, q5⟩ := an4 (σ := σ) (θ := ad7 (acn codes)) (A0 := []) (KL := KL) (nxi := nxi) (nxo := nxo) (nx := nxi) (Li := Li) (Lo := Lo) hA b1 b2 b3 b1 (by omega) hd hr hold hnew hg hw' hc'
 rw [eLi, eLo, show nxi + (nxo - nxi) = nxo by omega] at q5
 have hv' : @VRels (GvS σ (ad7 (acn codes))) ρt us args.toList := ae7 (fun x v p h => fwd hA q4 8 x v p h) hus (by rw [eus]; exact hv)
 have hs : ∀ i, i ≠ 90 → (fun i => (ad7 (acn codes) i).eval σ) i = σ i := by
  intro i hi
  show (ad7 (acn codes) i).eval σ = σ i
  rw [a8k hi]; simp only [GE.eval]
 have h90 : (fun i => (ad7 (acn codes) i).eval σ) 90 = codes := ad2 codes
 have hcc : ρt (K.of 256) = some c0 := (q4 (K.of 256) c0 (by rw [kid]; exact hc0)).1
 have run := h (fun i => (ad7 (acn codes) i).eval σ) hs ρt args w c0 q1 q2 q3 hv' hcc (by rw [show (ad7 (acn codes) 90).eval σ = codes from ad2 codes]; exact hq)
 refine Calls.mono run fun e w' hp => ?_
 cases r with
 | ret v =>
   obtain ⟨v', ρ1, rfl, hv1, hA1⟩ := hp
   obtain ⟨ρ', hA2, hkb⟩ := q5 ρ1 w' hA1
   have hb := bwd hA hkb 8 _ _ hv1
   have hr := er (acn codes)
   injection hr with hr
   rw [hr] at hb
   exact ⟨v', ρ', rfl, hb, hA2⟩
 | pan ch =>
   obtain ⟨ch', ρ1, rfl, hv1, hA1⟩ := hp
   obtain ⟨ρ', hA2, hkb⟩ := q5 ρ1 w' hA1
   have hb := @ap9 ⟨σ⟩ _ _ _ _ _ _ hA hkb _ _ hv1
   have hr := er (acn codes)
   injection hr with hr
   rw [hr] at hb
   exact ⟨ch', ρ', rfl, hb, hA2⟩
end Go.Ev
