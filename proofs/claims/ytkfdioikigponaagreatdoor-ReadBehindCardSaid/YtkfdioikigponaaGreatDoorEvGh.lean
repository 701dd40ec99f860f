import Derived.Test.YtkfdioikigponaaGreatDoorEvTd
set_option maxRecDepth 100000
set_option linter.all false
namespace Go.Ev
noncomputable section
inductive EqL where
 | nil
 | g (a b : GE) (l : EqL)
 | i (a b : SE) (l : EqL)
def inG (a b : GE) : EqL → Bool
 | .nil => false
 | .g a' b' l => bc (rr a a') (bc (rr b b') true (inG a b l)) (inG a b l)
 | .i _ _ l => inG a b l
def inS (a b : SE) : EqL → Bool
 | .nil => false
 | .i a' b' l => bc (kg a a') (bc (kg b b') true (inS a b l)) (inS a b l)
 | .g _ _ l => inS a b l
def eqG (E : EqL) (a b : GE) : Bool := bc (rr a b) true (inG a b E)
def eqS (E : EqL) (a b : SE) : Bool := bc (kg a b) true (inS a b E)
def abm (T : List (Nat × Nat)) (nxi : Nat) (k : K) : Option K := match jq T k.num with
 | some m => some (K.of m)
 | none => bc (Nat.blt k.num nxi) (some k) none
def arw : List (Nat × Nat) → List (Nat × Nat)
 | [] => []
 | p :: l => (p.2, p.1) :: arw l
def acl (κ : K → Option K) (a b : K) : Bool := match κ a with
 | some c => K.beq c b
 | none => false
def leR (κ : K → Option K) (E : EqL) : Nat → AV → AV → Bool
 | 0, _, _ => false
 | n + 1, x, y => match x, y with
   | _, .top => true
   | .ptr b o, .ptr b' o' => bc (acl κ b b') (Nat.beq o o') false
   | .slice b o l c none, .slice b' o' l' c' none => acl κ b b' && Nat.beq o o' && Nat.beq l l' && Nat.beq c c'
   | .slice b o l c (some e), .slice b' o' l' c' (some e') => acl κ b b' && Nat.beq o o' && Nat.beq l l' && Nat.beq c c' && Nat.beq e e'
   | .slice b o len _ (some es), .gv (.sl b' es' m A) => acl κ b b' && Nat.beq o 0 && Nat.beq es es' && eqS E (.c (.ofNat len)) m && noA A
   | .map b, .map b' => acl κ b b'
   | .func f x y, .func g x' y' => bc (bm7 f g) (bc (leAV.leL (leR κ E n) x x') (leAV.leL (leR κ E n) y y') false) false
   | .iface t a, .iface t' b => bc (Nat.beq t t') (leR κ E n a b) false
   | .agg l, .agg m => leAV.leL (leR κ E n) l m
   | .tuple l, .tuple m => leAV.leL (leR κ E n) l m
   | .sym k e _, .sym k' e' A' => v8 k k' && eqS E e e' && noA A'
   | .int k m, .sym k' e' A' => v8 k k' && eqS E (.c m) e' && noA A'
   | .gv (.str g _), .gv (.str g' A') => eqG E g g' && noA A'
   | .str l m, .gv (.str g' A') => al1 l m && eqG E (.lit l m) g' && noA A'
   | .gv (.sl b es n _), .gv (.sl b' es' n' A') => acl κ b b' && Nat.beq es es' && eqS E n n' && noA A'
   | .gv (.ptr b es i o _), .gv (.ptr b' es' i' o' A') => acl κ b b' && Nat.beq es es' && eqS E i i' && Nat.beq o o' && noA A'
   | .gv (.sr b o n _), .gv (.sr b' o' n' A') => acl κ b b' && eqS E o o' && eqS E n n' && noA A'
   | .gv (.pr b o i _), .gv (.pr b' o' i' A') => acl κ b b' && eqS E o o' && eqS E i i' && noA A'
   | a, b => bc (b2h a) (a7s a b) false
def axa (f : AV → AV → Bool) : List (AV × AV) → List (AV × AV) → Bool
 | [], [] => true
 | a :: l, b :: m => bc (f a.1 b.1) (bc (f a.2 b.2) (axa f l m) false) false
 | _, _ => false
def loR (κ : K → Option K) (E : EqL) (o : LO) (x : AObj) : Bool := match o, x with
 | .cells t e fl fh l, .cells t' s e' fl' fh' c => Nat.beq t t' && btl e e' && Nat.beq fl fl' && Nat.beq fh fh' && Nat.beq s (cy l) && Nat.ble s 65536 && leAV.leL (leR κ E 8) (pf c s 0) l
 | .map es, .map es' => axa (leR κ E 8) es' es
 | .gob (.gh t ks n g), .gob (.gh t' ks' n' g') => Nat.beq t t' && bm9 ks ks' && eqS E n' n && eqG E g' g
 | .gob (.gmap m), .gob (.gmap m') => eqG E m' m
 | .gob (.iter g p A), .gob (.iter g' p' _) => eqG E g' g && eqS E p' p && noA A
 | .gob (.junk t), .gob (.gh t' _ _ _) => Nat.beq t t'
 | .gob (.lh k g), .gob (.lh k' g') => Nat.beq k k' && eqG E g' g
 | .gob (.rh o n g), .gob (.rh o' n' g') => eqS E o' o && eqS E n' n && eqG E g' g
 | .gob (.gh t ks n g), .cells t' s e fl fh c => bc (azn [] (.gob (.gh t ks n g)) (.cells t' s e fl fh c)) true (azn [] (.gob (.gh t ks (.c (.ofNat (s / cy ks))) (a7k ks (pf c ((s / cy ks) * cy ks) 0)))) (.cells t' s e fl fh c) && eqS E (.c (.ofNat (s / cy ks))) n && eqG E (a7k ks (pf c ((s / cy ks) * cy ks) 0)) g)
 | .gob (.gmap m), .map es => (match bgz es .nil with
   | some g => azn [] (.gob (.gmap g)) (.map es) && eqG E g m
   | none => false)
 | .gob g, x => azn [] (.gob g) x
 | _, _ => false
def mt (T : List (Nat × Nat)) (nxi k : Nat) : Option Nat := bc (Nat.blt k nxi) (some k) (jq (arw T) k)
def a31 (T : List (Nat × Nat)) (E : EqL) (nxi : Nat) (w : W) : List HO → Bool
 | [] => true
 | .mk k o :: l => bc (match mt T nxi k with
   | some s => bc (Nat.blt s 65536 && Nat.blt k 65536) (loR (abm T nxi) E o (dy (K.of s) w)) false
   | none => false) (a31 T E nxi w l) false
def tabOk (Lo : List HO) (T0 : List (Nat × Nat)) (nxi nxo : Nat) : List (Nat × Nat) → Bool
 | [] => true
 | p :: l => bc (Nat.ble 256 p.1 && (Nat.ble nxi p.1 || asn (abg p.1 Lo)) && Nat.blt p.1 65536 && Nat.ble nxi p.2 && Nat.blt p.2 nxo && optIs (jq T0 p.1) p.2 && optIs (jq (arw T0) p.2) p.1) (tabOk Lo T0 nxi nxo l) false
where optIs : Option Nat → Nat → Bool
 | some a, b => Nat.beq a b
 | none, _ => false
end
def EqL.all (σ : Nat → List Int) : EqL → Prop
 | .nil => True
 | .g a b l => a.eval σ = b.eval σ ∧ l.all σ
 | .i a b l => a.eval σ = b.eval σ ∧ l.all σ
section
variable [Gv]
theorem axv {a b : GE} : ∀ {E : EqL}, E.all Gv.σ → inG a b E = true → a.eval Gv.σ = b.eval Gv.σ
 | .nil, _, h => by cases h
 | .g a' b' l, hE, h => by
   simp only [inG, ab] at h
   split at h
   ·rename_i h1
    split at h
    ·rename_i h2
     rw [d9 _ _ h1, d9 _ _ h2]; exact hE.1
    ·exact axv hE.2 h
   ·exact axv hE.2 h
 | .i _ _ l, hE, h => axv hE.2 h
theorem ayr {a b : SE} : ∀ {E : EqL}, E.all Gv.σ → inS a b E = true → a.eval Gv.σ = b.eval Gv.σ
 | .nil, _, h => by cases h
 | .i a' b' l, hE, h => by
   simp only [inS, ab] at h
   split at h
   ·rename_i h1
    split at h
    ·rename_i h2
     rw [cr _ _ h1, cr _ _ h2]; exact hE.1
    ·exact ayr hE.2 h
   ·exact ayr hE.2 h
 | .g _ _ l, hE, h => ayr hE.2 h
theorem y6 {E : EqL} (hE : E.all Gv.σ) {a b : GE} (h : eqG E a b = true) : a.eval Gv.σ = b.eval Gv.σ := by
 unfold eqG at h
 rw [ab] at h
 split at h
 ·rename_i h1; rw [d9 _ _ h1]
 ·exact axv hE h
theorem qk {E : EqL} (hE : E.all Gv.σ) {a b : SE} (h : eqS E a b = true) : a.eval Gv.σ = b.eval Gv.σ := by
 unfold eqS at h
 rw [ab] at h
 split at h
 ·rename_i h1; rw [cr _ _ h1]
 ·exact ayr hE h
variable {ρ1 ρ2 : Env} {κ : K → Option K} {E : EqL}
theorem kf (hk : ∀ k k', κ k = some k' → px ρ1 ρ2 k k') {a b : K} (h : acl κ a b = true) : px ρ1 ρ2 a b := by
 unfold acl at h
 split at h
 ·rename_i c hc
  rw [← (K.beq_iff _ _).1 h]; exact hk _ _ hc
 ·cases h
theorem yz {f : AV → AV → Bool} (hf : ∀ a b x, f a b = true → VRel ρ1 a x → VRel ρ2 b x) : ∀ {l m : List AV} {xs : List Value}, leAV.leL f l m = true → VRels ρ1 l xs → VRels ρ2 m xs
 | [], [], _, _, h => by simp only [VRels] at h ⊢; exact h
 | [], _ :: _, _, h, _ => by cases h
 | _ :: _, [], _, h, _ => by cases h
 | a :: l, b :: m, _, h, hx => by
   simp only [leAV.leL] at h
   obtain ⟨h1, h2⟩ := bcT.1 h
   simp only [VRels] at hx ⊢
   obtain ⟨v, vs, e, q1, q2⟩ := hx
   exact ⟨v, vs, e, hf _ _ _ h1 q1, yz hf h2 q2⟩
theorem aab (hE : E.all Gv.σ) (hk : ∀ k k', κ k = some k' → px ρ1 ρ2 k k') : ∀ n a b x, leR κ E n a b = true → VRel ρ1 a x → VRel ρ2 b x
 | 0, _, _, _, h, _ => by cases h
 | n + 1, a, b, x, h, hx => by
   have ih := aab hE hk n
   unfold leR at h
   split at h
   ·simp only [VRel]
   ·obtain ⟨h1, h2⟩ := bcT.1 h
    have h2 := zW h2
    subst h2
    simp only [VRel] at hx ⊢
    obtain ⟨c, q1, q2⟩ := hx
    exact ⟨c, (kf hk h1 c q1).1, q2⟩
   ·simp only [zU] at h
    obtain ⟨⟨⟨h1, h2⟩, h3⟩, h4⟩ := h
    have h2 := zW h2
    have h3 := zW h3
    have h4 := zW h4
    subst h2 h3 h4
    simp only [VRel] at hx ⊢
    obtain ⟨c, cap', q1, q2, q3, q4⟩ := hx
    exact ⟨c, cap', (kf hk h1 c q1).1, q2, bra (kf hk h1 c q1).2 q3, q4⟩
   ·simp only [zU] at h
    obtain ⟨⟨⟨⟨h1, h2⟩, h3⟩, h4⟩, h5⟩ := h
    have h2 := zW h2
    have h3 := zW h3
    have h4 := zW h4
    have h5 := zW h5
    subst h2 h3 h4 h5
    simp only [VRel] at hx ⊢
    obtain ⟨c, cap', q1, q2, q3, q4⟩ := hx
    exact ⟨c, cap', (kf hk h1 c q1).1, q2, bra (kf hk h1 c q1).2 q3, q4⟩
   ·rename_i b' es' m A
    simp only [zU] at h
    obtain ⟨⟨⟨⟨h1, h2⟩, h3⟩, h4⟩, h5⟩ := h
    have h2 := zW h2
    have h3 := zW h3
    have h4 := qk hE h4
    have h5 := m8 h5
    subst h2 h3 h5
    simp only [VRel] at hx ⊢
    obtain ⟨c, cap', q1, ⟨q2, q3⟩, q4, q5⟩ := hx
    simp only [SlOk] at q4
    simp only [SE.eval] at h4
    have hsz := (kf hk h1 c q1).2
    refine ⟨SAll.nil, c, cap', (kf hk h1 c q1).1, ?_, ?_, ?_, ?_⟩
    ·rw [← h4]; exact Int.natCast_nonneg _
    ·rw [← h4]; simp; omega
    ·rw [hsz]; omega
    ·rw [q5, ← h4]; simp
   ·simp only [VRel] at hx ⊢
    obtain ⟨c, q1, q2⟩ := hx
    exact ⟨c, (kf hk h c q1).1, q2⟩
   ·obtain ⟨h1, h2⟩ := bcT.1 h
    obtain ⟨h2, h3⟩ := bcT.1 h2
    rename_i f x y g x' y'
    simp only [VRel] at hx ⊢
    obtain ⟨f', xs, ys, q1, q0, q2, q3⟩ := hx
    refine ⟨f', xs, ys, q1, ?_, yz ih h2 q2, yz ih h3 q3⟩
    unfold bm7 at h1
    split at h1
    ·have h1 := zW h1
     subst h1
     exact q0
    ·cases h1
   ·obtain ⟨h1, h2⟩ := bcT.1 h
    have h1 := zW h1
    subst h1
    simp only [VRel] at hx ⊢
    obtain ⟨v, e, q⟩ := hx
    exact ⟨v, e, ih _ _ _ h2 q⟩
   ·simp only [VRel] at hx ⊢; obtain ⟨ys, e, q⟩ := hx; exact ⟨ys, e, yz ih h q⟩
   ·simp only [VRel] at hx ⊢; obtain ⟨ys, e, q⟩ := hx; exact ⟨ys, e, yz ih h q⟩
   ·simp only [zU] at h
    obtain ⟨⟨h1, h2⟩, h3⟩ := h
    have h1 := (fe _ _).1 h1
    have h2 := qk hE h2
    have h3 := m8 h3
    subst h1 h3
    simp only [VRel] at hx ⊢
    exact ⟨SAll.nil, by rw [hx.2, h2]⟩
   ·simp only [zU] at h
    obtain ⟨⟨h1, h2⟩, h3⟩ := h
    have h1 := (fe _ _).1 h1
    have h2 := qk hE h2
    have h3 := m8 h3
    subst h1 h3
    simp only [SE.eval] at h2
    simp only [VRel] at hx ⊢
    exact ⟨SAll.nil, by rw [hx, h2]⟩
   ·simp only [zU] at h
    obtain ⟨h1, h2⟩ := h
    have h1 := y6 hE h1
    have h2 := m8 h2
    subst h2
    simp only [VRel, GVRel] at hx ⊢
    exact ⟨SAll.nil, by rw [← h1]; exact hx.2⟩
   ·simp only [zU] at h
    obtain ⟨⟨h0, h1⟩, h2⟩ := h
    have h1 := y6 hE h1
    have h2 := m8 h2
    subst h2
    simp only [GE.eval] at h1
    simp only [VRel, GVRel] at hx ⊢
    refine ⟨SAll.nil, ?_, ?_⟩
    ·rw [← h1, nq]; exact hx.2
    ·rw [← h1]; exact ju _
   ·simp only [zU] at h
    obtain ⟨⟨⟨h1, h2⟩, h3⟩, h4⟩ := h
    have h2 := zW h2
    have h3 := qk hE h3
    have h4 := m8 h4
    subst h2 h4
    simp only [VRel, GVRel] at hx ⊢
    obtain ⟨_, c, cap', q1, q2, q3, q4, q5⟩ := hx
    exact ⟨SAll.nil, c, cap', (kf hk h1 c q1).1, by rw [← h3]; exact q2, by rw [← h3]; exact q3, by rw [(kf hk h1 c q1).2]; exact q4, by rw [← h3]; exact q5⟩
   ·simp only [zU] at h
    obtain ⟨⟨⟨⟨h1, h2⟩, h3⟩, h5⟩, h4⟩ := h
    have h2 := zW h2
    have h5 := zW h5
    have h3 := qk hE h3
    have h4 := m8 h4
    subst h2 h4 h5
    simp only [VRel, GVRel] at hx ⊢
    obtain ⟨_, c, q1, q2, q3⟩ := hx
    exact ⟨SAll.nil, c, (kf hk h1 c q1).1, by rw [← h3]; exact q2, by rw [← h3]; exact q3⟩
   ·simp only [zU] at h
    obtain ⟨⟨⟨h1, h2⟩, h3⟩, h4⟩ := h
    have h2 := qk hE h2
    have h3 := qk hE h3
    have h4 := m8 h4
    subst h4
    simp only [VRel, GVRel] at hx ⊢
    obtain ⟨_, c, cap', q1, q2, q3, q5⟩ := hx
    exact ⟨SAll.nil, c, cap', (kf hk h1 c q1).1, by rw [← h3]; exact q2, by rw [← h3]; exact q3, by rw [← h3, ← h2]; exact q5⟩
   ·simp only [zU] at h
    obtain ⟨⟨⟨h1, h2⟩, h3⟩, h4⟩ := h
    have h2 := qk hE h2
    have h3 := qk hE h3
    have h4 := m8 h4
    subst h4
    simp only [VRel, GVRel] at hx ⊢
    obtain ⟨_, c, q1, q2, q3⟩ := hx
    exact ⟨SAll.nil, c, (kf hk h1 c q1).1, by rw [← h3]; exact q2, by rw [← h3, ← h2]; exact q3⟩
   ·obtain ⟨h1, h2⟩ := bcT.1 h
    rw [← a01 _ _ h2]
    exact bg8 h1 hx
theorem apv {f : AV → AV → Bool} (hf : ∀ a b x, f a b = true → VRel ρ1 a x → VRel ρ2 b x) : ∀ {l m : List (AV × AV)} {ms : List MapEntry}, axa f l m = true → ERel ρ1 l ms → ERel ρ2 m ms
 | [], [], _, _, h => h
 | [], _ :: _, _, h, _ => by cases h
 | _ :: _, [], _, h, _ => by cases h
 | a :: l, b :: m, _, h, ⟨x, xs, q1, q2, q3, q4⟩ => by
   simp only [axa] at h
   obtain ⟨h1, h2⟩ := bcT.1 h
   obtain ⟨h2, h3⟩ := bcT.1 h2
   exact ⟨x, xs, q1, hf _ _ _ h1 q2, hf _ _ _ h2 q3, apv hf h3 q4⟩
theorem byl {t : TypeId} {ks : List IntKind} {n n' : SE} {g g' : GE} {y : Option Obj} (h1 : n'.eval Gv.σ = n.eval Gv.σ) (h2 : g'.eval Gv.σ = g.eval Gv.σ) (h : GORel (.gh t ks n' g') y) : GORel (.gh t ks n g) y := by
 simp only [GORel] at h ⊢
 rw [h1] at h
 revert h
 generalize hx : GE.eval Gv.σ g' = x
 rw [h2] at hx
 subst hx
 exact id
theorem bq7 (hE : E.all Gv.σ) (hk : ∀ k k', κ k = some k' → px ρ1 ρ2 k k') {o : LO} {x : AObj} (h : loR κ E o x = true) : x ≠ .none ∧ x.isRo = (co o).isRo ∧ ∀ y, ORel ρ1 x y → ORel ρ2 (co o) y := by
 unfold loR at h
 split at h
 ·rename_i t e fl fh l t' s e' fl' fh' c
  simp only [zU] at h
  obtain ⟨⟨⟨⟨⟨⟨h1, h2⟩, h3⟩, h4⟩, h5⟩, h6⟩, h7⟩ := h
  refine ⟨by simp, rfl, fun y hy => ?_⟩
  obtain ⟨arr, fz, e1, e2, e3, e4, e5, e6⟩ := hy
  have h1 := zW h1
  have h2 := auv h2
  have h3 := zW h3
  have h4 := zW h4
  have h5 := zW h5
  have h6 := zE h6
  subst h1 h2 h3 h4
  obtain ⟨g1, g2⟩ := av1 h7
  rw [bf] at h5
  have hcap := il l.length (by omega)
  refine ⟨arr, fz, e1, by rw [bf]; omega, fun q => by rw [bf, ← h5]; exact e3 q, by rw [bf, fi]; exact hcap, e5, ?_⟩
  intro i hi
  rw [bf] at hi
  obtain ⟨v, q1, q2⟩ := e6 i (by omega)
  refine ⟨v, q1, ?_⟩
  rw [bf, ir l 0 _ i (by omega) (by omega), dif_pos ⟨Nat.zero_le _, by omega⟩]
  have hil : i < (pf c s 0).length := by rw [g1]; omega
  have := g2 i hil (by omega)
  refine aab hE hk 8 _ _ _ this ?_
  simpa [acg] using q2
 ·rename_i es es'
  refine ⟨by simp, rfl, fun y hy => ?_⟩
  obtain ⟨a, b, h1, h2⟩ := hy
  exact ⟨a, b, h1, apv (aab hE hk 8) h h2⟩
 ·rename_i t ks n g t' ks' n' g'
  simp only [zU] at h
  obtain ⟨⟨⟨h1, h2⟩, h3⟩, h4⟩ := h
  have h1 := zW h1
  have h2 := auu h2
  subst h1 h2
  exact ⟨by simp, rfl, fun y hy => byl (qk hE h3) (y6 hE h4) hy⟩
 ·rename_i m m'
  refine ⟨by simp, rfl, fun y hy => ?_⟩
  show GORel (.gmap m) y
  have hy : GORel (.gmap m') y := hy
  simp only [GORel] at hy ⊢
  rw [← y6 hE h]; exact hy
 ·rename_i g p A g' p' A'
  simp only [zU] at h
  obtain ⟨⟨h1, h2⟩, h3⟩ := h
  have h3 := m8 h3
  subst h3
  refine ⟨by simp, rfl, fun y hy => ?_⟩
  show GORel (.iter g p []) y
  have hy : GORel (.iter g' p' A') y := hy
  simp only [GORel] at hy ⊢
  rw [← y6 hE h1, ← qk hE h2]; exact ⟨SAll.nil, hy.2⟩
 ·rename_i t t' ks n g
  have h := zW h
  subst h
  refine ⟨by simp, rfl, fun y hy => ?_⟩
  show GORel (.junk t) y
  have hy : GORel (.gh t ks n g) y := hy
  simp only [GORel] at hy ⊢
  obtain ⟨arr, fz, h1, h2, _⟩ := hy
  exact ⟨arr, fz, h1, h2⟩
 ·exact ⟨by simp, rfl, fun y hy => hy⟩
 ·rename_i o n g o' n' g'
  simp only [zU] at h
  obtain ⟨⟨h1, h2⟩, h3⟩ := h
  have h1 := qk hE h1
  have h2 := qk hE h2
  have h3 := y6 hE h3
  refine ⟨by simp, rfl, fun y hy => ?_⟩
  show GORel (.rh o n g) y
  have hy : GORel (.rh o' n' g') y := hy
  simp only [GORel] at hy ⊢
  rw [h1, h2] at hy
  revert hy
  generalize hx : GE.eval Gv.σ g' = x
  rw [h3] at hx
  subst hx
  exact id
 ·rename_i t ks n g t' s e fl fh c
  rw [ab] at h
  split at h
  ·rename_i h0
   obtain ⟨h1, h2, h3⟩ := abl (A0 := []) SAll.nil h0
   exact ⟨h1, h2, fun y hy => h3 ρ1 y hy⟩
  ·simp only [zU] at h
   obtain ⟨⟨h0, q1⟩, q2⟩ := h
   obtain ⟨h1, h2, h3⟩ := abl (A0 := []) SAll.nil h0
   exact ⟨h1, rfl, fun y hy => byl (qk hE q1) (y6 hE q2) (h3 ρ1 y hy)⟩
 ·rename_i m es
  split at h <;> try (cases h; done)
  rename_i g hg
  rw [zU] at h
  obtain ⟨h0, q1⟩ := h
  obtain ⟨h1, h2, h3⟩ := abl (A0 := []) SAll.nil h0
  refine ⟨h1, h2, fun y hy => ?_⟩
  have q := h3 ρ1 y hy
  show GORel (.gmap m) y
  have q : GORel (.gmap g) y := q
  simp only [GORel] at q ⊢
  rw [← y6 hE q1]; exact q
 ·obtain ⟨h1, h2, h3⟩ := abl (A0 := []) SAll.nil h
  exact ⟨h1, h2, fun y hy => h3 ρ1 y hy⟩
 ·cases h
theorem b3r (hE : E.all Gv.σ) {o : LO} {x : AObj} {kd : Nat} {g : GE} (h : loR κ E o x = true) (ho : bu (co o) = some (kd, g)) : ∃ g', bu x = some (kd, g') ∧ g.eval Gv.σ = g'.eval Gv.σ := by
 cases o with
 | gob o =>
   cases o <;> first | (cases ho; done) | skip
   injection ho with ho
   injection ho with e1 e2
   subst e1 e2
   cases x <;> first | (cases h; done) | skip
   rename_i o'
   cases o' <;> first | (cases h; done) | skip
   rename_i k' g'
   have h : (Nat.beq _ k' && eqG E g' _) = true := h
   rw [zU] at h
   have := zW h.1
   subst this
   exact ⟨_, rfl, (y6 hE h.2).symm⟩
 | _ => cases ho
theorem axe {Lo : List HO} {T0 : List (Nat × Nat)} {nxi nxo : Nat} : ∀ {T : List (Nat × Nat)}, tabOk Lo T0 nxi nxo T = true → ∀ s t, (s, t) ∈ T → (256 ≤ s ∧ (nxi ≤ s ∨ abg s Lo = false)) ∧ s < 65536 ∧ nxi ≤ t ∧ t < nxo ∧ jq T0 s = some t ∧ jq (arw T0) t = some s
 | [], _, _, _, h => by cases h
 | p :: l, h, s, t, hm => by
   simp only [tabOk] at h
   obtain ⟨h1, h2⟩ := bcT.1 h
   rcases List.mem_cons.1 hm with e | e
   ·subst e
    simp only [zU] at h1
    obtain ⟨⟨⟨⟨⟨⟨q0, q1⟩, q2⟩, q3⟩, q4⟩, q5⟩, q6⟩ := h1
    rw [Bool.or_eq_true] at q1
    have opt : ∀ {o : Option Nat} {b : Nat}, tabOk.optIs o b = true → o = some b := by
     intro o b h
     cases o with
     | none => cases h
     | some a => rw [zW h]
    exact ⟨⟨zE q0, q1.imp zE (fun h => by cases hk : abg s Lo <;> simp_all [asn])⟩, zE q2, zE q3, zE q4, opt q5, opt q6⟩
   ·exact axe h2 s t e
theorem ajn : ∀ {L : List (Nat × Nat)} {k m : Nat}, jq L k = some m → (k, m) ∈ L
 | [], _, _, h => by cases h
 | p :: l, k, m, h => by
   simp only [jq, ab] at h
   split at h
   ·rename_i h1
    injection h with h
    rw [← zW h1, ← h]
    exact List.mem_cons_self ..
   ·exact zA _ (ajn h)
theorem a1h : ∀ {L : List (Nat × Nat)} {k m : Nat}, (k, m) ∈ arw L → (m, k) ∈ L
 | [], _, _, h => by cases h
 | p :: l, k, m, h => by
   simp only [arw] at h
   rcases List.mem_cons.1 h with e | e
   ·injection e with e1 e2
    subst e1 e2
    exact List.mem_cons_self ..
   ·exact zA _ (a1h e)
theorem adq {T : List (Nat × Nat)} {E : EqL} {nxi : Nat} {w : W} : ∀ {L : List HO}, a31 T E nxi w L = true → ∀ n o, HO.mk n o ∈ L → ∃ s, mt T nxi n = some s ∧ s < 65536 ∧ n < 65536 ∧ loR (abm T nxi) E o (dy (K.of s) w) = true
 | [], _, _, _, h => by cases h
 | .mk k p :: L, h, n, o, hm => by
   simp only [a31] at h
   obtain ⟨h1, h2⟩ := bcT.1 h
   rcases List.mem_cons.1 hm with e | e
   ·injection e with e1 e2
    subst e1 e2
    split at h1
    ·rename_i s hs
     obtain ⟨h3, h4⟩ := bcT.1 h1
     simp only [zU] at h3
     exact ⟨s, hs, zE h3.1, zE h3.2, h4⟩
    ·cases h1
   ·exact adq h2 n o e
noncomputable def xv (ρ1 : Env) (T : List (Nat × Nat)) (nxi : Nat) : Env where
 blk k := match mt T nxi k.num with
  | some s => ρ1 (K.of s)
  | none => none
 sz k := match mt T nxi k.num with
  | some s => ρ1.sz (K.of s)
  | none => 0
 ft k := match mt T nxi k.num with
  | some s => ρ1.ft (K.of s)
  | none => fun _ => False
theorem bsj {ρ : Env} {a a1 : W} {w w1 : World} {T : List (Nat × Nat)} {nxi nxo : Nat} {Lo : List HO} (hc : Clean ρ a) (hnx : a.nx.num = nxi) (hE : E.all Gv.σ) (b1 : 256 ≤ nxi) (b2 : nxi ≤ nxo) (b3 : nxo ≤ 65535)
  (hT : tabOk Lo T nxi nxo T = true) (hl : vm laidL a1 = true) (hh : a31 T E nxi a1 Lo = true) (hA : Adv ρ a w ρ1 a1 w1) :
  ∃ ρ2, Adv ρ a w ρ2 (ax Lo nxo) w1 ∧ ∀ k k', abm T nxi k = some k' → px ρ1 ρ2 k k' := by
 have n3 : (ax Lo nxo).nx.num = nxo := ci (by omega)
 have src_low : ∀ {k : Nat}, k < nxi → mt T nxi k = some k := by
  intro k h
  simp only [mt, ab]
  rw [if_pos (show Nat.blt k nxi = true from Nat.ble_eq_true_of_le h)]
 have src_high : ∀ {k : Nat}, nxi ≤ k → mt T nxi k = jq (arw T) k := by
  intro k h
  simp only [mt, ab]
  rw [if_neg (by simp [Nat.blt]; omega)]
 have src_tab : ∀ {k s : Nat}, nxi ≤ k → mt T nxi k = some s → (256 ≤ s ∧ (nxi ≤ s ∨ abg s Lo = false)) ∧ s < 65536 ∧ k < nxo ∧ jq T s = some k := by
  intro k s h e
  rw [src_high h] at e
  obtain ⟨q1, q2, q3, q4, q5, q6⟩ := axe hT s k (a1h (ajn e))
  exact ⟨q1, q2, q4, q5⟩
 have here : ∀ k : K, ac k (ae Lo) ≠ .none → k.num ≤ 255 ∨ abg k.num Lo = true := by
  intro k hk
  rcases jm k Lo hk with ⟨n, o, q1, q2, q3⟩ | ⟨g, cs, q1, q2, q3⟩
  ·obtain ⟨s, s1, s2, s3, s4⟩ := adq hh n o q1
   subst q2
   rw [ci s3]
   exact .inr (keyIn_iff.2 ⟨o, q1⟩)
  ·subst q2
   obtain ⟨f1, f2, f3⟩ := kh _ jo g cs q1
   rw [ci (by omega)]
   exact .inl f1
 have src_inj : ∀ {k l s : Nat}, (k ≤ 255 ∨ abg k Lo = true) → (l ≤ 255 ∨ abg l Lo = true) → mt T nxi k = some s → mt T nxi l = some s → k = l := by
  intro k l s hik hil h1 h2
  by_cases hk : k < nxi <;> by_cases hl : l < nxi
  ·rw [src_low hk] at h1; rw [src_low hl] at h2
   injection h1 with h1; injection h2 with h2; omega
  ·rw [src_low hk] at h1; injection h1 with h1
   subst h1
   obtain ⟨⟨z1, z2⟩, _⟩ := src_tab (by omega) h2
   rcases z2 with z2 | z2
   ·omega
   ·rcases hik with z | z
    ·omega
    ·rw [z] at z2; cases z2
  ·rw [src_low hl] at h2; injection h2 with h2
   subst h2
   obtain ⟨⟨z1, z2⟩, _⟩ := src_tab (by omega) h1
   rcases z2 with z2 | z2
   ·omega
   ·rcases hil with z | z
    ·omega
    ·rw [z] at z2; cases z2
  ·have := (src_tab (by omega) h1).2.2.2
   rw [(src_tab (by omega) h2).2.2.2] at this
   injection this with this; exact this.symm
 have blk : ∀ {k : K} {s : Nat}, mt T nxi k.num = some s → (xv ρ1 T nxi) k = ρ1 (K.of s) ∧ (xv ρ1 T nxi).sz k = ρ1.sz (K.of s) := by
  intro k s h
  constructor
  ·show (match mt T nxi k.num with | some s => ρ1 (K.of s) | none => none) = _
   rw [h]
  ·show (match mt T nxi k.num with | some s => ρ1.sz (K.of s) | none => 0) = _
   rw [h]
 have blk0 : ∀ {k : K}, mt T nxi k.num = none → (xv ρ1 T nxi) k = none := by
  intro k h
  show (match mt T nxi k.num with | some s => ρ1 (K.of s) | none => none) = _
  rw [h]
 have low : ∀ {k : K}, k.num < nxi → (xv ρ1 T nxi) k = ρ1 k ∧ (xv ρ1 T nxi).sz k = ρ1.sz k := by
  intro k h
  have := blk (src_low h)
  rw [ayc] at this
  exact this
 have hkey : ∀ k k', abm T nxi k = some k' → px ρ1 (xv ρ1 T nxi) k k' := by
  intro k k' h
  unfold abm at h
  split at h
  ·rename_i m hm
   injection h with h
   subst h
   obtain ⟨q1, q2, q3, q4, q5, q6⟩ := axe hT _ _ (ajn hm)
   have e : (K.of m).num = m := ci (by omega)
   have := blk (k := K.of m) (s := k.num) (by rw [e, src_high q3]; exact q6)
   rw [ayc] at this
   exact fun c hc => ⟨by rw [this.1]; exact hc, this.2⟩
  ·rw [ab] at h
   split at h
   ·rename_i h1
    injection h with h
    subst h
    have := low (k := k) (zE h1)
    exact fun c hc => ⟨by rw [this.1]; exact hc, this.2⟩
   ·cases h
 refine ⟨xv ρ1 T nxi, ?_, hkey⟩
 have at_src : ∀ k, ac k (ae Lo) ≠ .none → ∃ s, mt T nxi k.num = some s ∧ ac (K.of s) a1.h ≠ .none ∧ (ac k (ae Lo)).isRo = (ac (K.of s) a1.h).isRo ∧ ∀ y, ORel ρ1 (ac (K.of s) a1.h) y → ORel (xv ρ1 T nxi) (ac k (ae Lo)) y := by
  intro k hk
  rcases jm k Lo hk with ⟨n, o, q1, q2, q3⟩ | ⟨g, cs, q1, q2, q3⟩
  ·obtain ⟨s, s1, s2, s3, s4⟩ := adq hh n o q1
   subst q2
   rw [bq] at s4
   obtain ⟨r1, r2, r3⟩ := bq7 hE hkey s4
   rw [ci s3, q3]
   exact ⟨s, s1, r1, by rw [r2], r3⟩
  ·subst q2
   obtain ⟨f1, f2, f3⟩ := kh _ jo g cs q1
   obtain ⟨n, c, r1⟩ := afj hl g cs q1
   rw [bq] at r1
   have eg : (K.of g).num = g := ci (by omega)
   refine ⟨g, by rw [eg]; exact src_low (by omega), by rw [r1]; simp, by rw [q3, r1]; rfl, fun y hy => ?_⟩
   rw [r1] at hy
   rw [q3]
   obtain ⟨arr, t', fz, e1, e2, e3, e4, e5⟩ := hy
   have hv := e5 g cs rfl q1
   have hlen := VRels.length _ _ (hv ρ1)
   rw [bf]
   refine ⟨arr, t', fz, e1, by simpa using hlen, by rw [fi]; exact il _ f3, fun i hi => ?_, e5⟩
   obtain ⟨v, s1, s2⟩ := yq (hv (xv ρ1 T nxi)) f3 i hi
   exact ⟨v, by simpa using s1, s2⟩
 have src_lt : ∀ {k : K} {s : Nat}, mt T nxi k.num = some s → s < 65536 := by
  intro k s h
  by_cases hk : k.num < nxi
  ·rw [src_low hk] at h; injection h with h; omega
  ·exact (src_tab (by omega) h).2.1
 have ftS : ∀ {k : K} {s : Nat}, mt T nxi k.num = some s → (xv ρ1 T nxi).ft k = ρ1.ft (K.of s) := by
  intro k s h
  show (match mt T nxi k.num with | some s => ρ1.ft (K.of s) | none => fun _ => False) = _
  rw [h]
 have ghS : ∀ k, bu (ac k (ae Lo)) ≠ none → ∃ s kd g g', mt T nxi k.num = some s ∧ bu (ac k (ae Lo)) = some (kd, g) ∧ bu (ac (K.of s) a1.h) = some (kd, g') ∧ g.eval Gv.σ = g'.eval Gv.σ := by
  intro k hk
  rcases jm k Lo (cj hk) with ⟨n, o, q1, q2, q3⟩ | ⟨g, cs, q1, q2, q3⟩
  ·obtain ⟨s, s1, s2, s3, s4⟩ := adq hh n o q1
   subst q2
   rw [bq] at s4
   rw [q3] at hk ⊢
   obtain ⟨⟨kd, g⟩, hg⟩ := Option.ne_none_iff_exists'.1 hk
   obtain ⟨g', h1, h2⟩ := b3r hE s4 hg
   exact ⟨s, kd, g, g', by rw [ci s3]; exact s1, hg, h1, h2⟩
  ·rw [q3] at hk; exact absurd rfl hk
 refine ⟨⟨?_, ?_, ?_, ?_⟩, ?_, ?_, ?_, hA.size, ?_, ?_, hA.frame, ?_, hA.os, hA.tape, hA.output⟩
 ·intro k l hk hl' e
  obtain ⟨s, s1, s2, s3, s4⟩ := at_src k hk
  obtain ⟨t, t1, t2, t3, t4⟩ := at_src l hl'
  rw [(blk s1).1, (blk t1).1] at e
  have := congrArg K.num (hA.rel.inj _ _ s2 t2 e)
  rw [ci (src_lt s1), ci (src_lt t1)] at this
  subst this
  exact K.num_inj (src_inj (here k hk) (here l hl') s1 t1)
 ·intro k hk
  obtain ⟨s, s1, s2, s3, s4⟩ := at_src k hk
  obtain ⟨c, h1, h2⟩ := hA.rel.dom _ s2
  exact ⟨c, by rw [(blk s1).1]; exact h1, s4 _ h2⟩
 ·intro k c arr t fz hk hc' hx
  obtain ⟨s, s1, s2, s3, s4⟩ := at_src k hk
  rw [(blk s1).1] at hc'
  rw [(blk s1).2]
  exact hA.rel.len _ c arr t fz s2 hc' hx
 ·intro k kd g hk
  have hk : bu (ac k (ae Lo)) = some (kd, g) := hk
  obtain ⟨s, kd', g1, g', s1, e1, e2, e3⟩ := ghS k (u5 hk)
  rw [hk] at e1
  injection e1 with e1
  injection e1 with e1 e1'
  subst e1 e1'
  have q := hA.rel.gho (K.of s) kd g' e2
  have hk0 := here k (cj (u5 hk))
  refine ⟨?_, ?_, ?_, ?_, ?_⟩
  ·intro c hcc; rw [(blk s1).1] at hcc; rw [ftS s1]; exact q.root c hcc
  ·intro c hcc; rw [(blk s1).1] at hcc; rw [ftS s1, e3]; exact q.rel c hcc
  ·rw [ftS s1]; exact q.lt
  ·intro l hl' hlk c hcc
   obtain ⟨t, t1, t2, t3, t4⟩ := at_src l hl'
   rw [(blk t1).1] at hcc
   rw [ftS s1]
   refine q.sep (K.of t) t2 (fun e => hlk ?_) c hcc
   have := congrArg K.num e
   rw [ci (src_lt t1), ci (src_lt s1)] at this
   subst this
   exact K.num_inj (src_inj (here l hl') hk0 t1 s1)
  ·intro l hl' hlk c hcf
   have hl' : bu (ac l (ae Lo)) ≠ none := hl'
   obtain ⟨t, _, _, g2, t1, _, f2, _⟩ := ghS l hl'
   rw [ftS t1] at hcf
   rw [ftS s1]
   refine q.dis (K.of t) (by rw [f2]; simp) (fun e => hlk ?_) c hcf
   have := congrArg K.num e
   rw [ci (src_lt t1), ci (src_lt s1)] at this
   subst this
   exact K.num_inj (src_inj (here l (cj hl')) hk0 t1 s1)
 ·intro k c hk
  have hlt : k.num < nxi := by
   apply Classical.byContradiction
   intro hn
   rw [hc k (by omega)] at hk
   cases hk
  rw [(low hlt).1, (low hlt).2]
  exact hA.le k c hk
 ·intro k
  by_cases hlt : k.num < nxi
  ·rw [(low hlt).1]
   rcases hA.rng k with e | e
   ·exact .inl e
   ·omega
  ·cases hs : mt T nxi k.num with
   | none => exact .inl (by rw [blk0 hs, hc k (by omega)])
   | some s => exact .inr ⟨by omega, by rw [n3]; exact (src_tab (by omega) hs).2.2.1⟩
 ·rw [n3]; omega
 ·rintro c ⟨k, hk, hr, hkc⟩
  obtain ⟨s, s1, s2, s3, s4⟩ := at_src k hk
  refine hA.own c ⟨_, s2, by rw [← s3]; exact hr, ?_⟩
  rcases hkc with hkc | ⟨h1, h2⟩
  ·rw [(blk s1).1] at hkc; exact .inl hkc
  ·obtain ⟨t, _, _, g2, t1, _, f2, _⟩ := ghS k h1
   rw [s1] at t1
   injection t1 with t1
   subst t1
   rw [ftS s1] at h2
   exact .inr ⟨by rw [f2]; simp, h2⟩
 ·intro k c hk hkc
  obtain ⟨s, s1, s2, s3, s4⟩ := at_src k hk
  rw [(blk s1).1] at hkc
  exact hA.keep _ c s2 hkc
 ·intro k hk hl
  rw [hnx] at hk
  have q := hA.fts k (by rw [hnx]; exact hk) hl
  have e := src_low hk
  refine ⟨by rw [ftS e, ayc]; exact q.1, ?_⟩
  by_cases hg : bu (ac k (ae Lo)) = none
  ·exact hg
  ·obtain ⟨t, _, _, g2, t1, _, f2, _⟩ := ghS k hg
   rw [e] at t1
   injection t1 with t1
   subst t1
   rw [ayc, q.2] at f2
   cases f2
end
end Go.Ev
set_option maxRecDepth 100000
set_option linter.all false
namespace Go.Ev
noncomputable section
def ti (τ : F) : Nat → Nat → List AV
 | 0, _ => []
 | n + 1, i => jz i τ :: ti τ n (i + 1)
def y8 : Code → Nat
 | .region id _ _ => 2 * id + 1
 | .block id _ => 2 * id + 2
 | .seq a _ => y8 a
 | .loop b => y8 b
 | _ => 0
def ew : Code → List Code
 | .seq a b => ew a ++ ew b
 | .cond _ a b => ew a ++ ew b
 | .block _ a => ew a
 | .loop b => b :: ew b
 | _ => []
def ab5 (k : Nat) : List Code → List Code
 | [] => []
 | c :: l => bc (Nat.beq (y8 c) k) (c :: ab5 k l) (ab5 k l)
def b3a : List Code → Option Code
 | [c] => some c
 | _ => none
def afr (f k : Nat) : Option Code := match abo f with
 | some b => b3a (ab5 k (ew b.2))
 | none => none
def afa (f k : Nat) : Code := match afr f k with
 | some b => b
 | none => .skip
inductive LR where
 | x (id : Nat) (us : List AV)
 | r (us : List AV)
 | p (ch : List PE) (us : List AV)
inductive LT where
 | mk (f k : Nat) (us : List AV) (nxi : Nat) (Li : List HO) (A : List SA) (bd : Option (SE × SE)) (r : LR) (nxo : Nat) (Lo : List HO)
def avs : LR → List AV
 | .x _ us => us
 | .r us => us
 | .p _ us => us
def bky (f : AV → AV) : LR → LR
 | .x id us => .x id (shL f us)
 | .r us => .r (shL f us)
 | .p ch us => .p (a9i f ch) (shL f us)
def rOf (r : LR) (um : UM) (w : W) : R := match r with
 | .x id us => .x id (.mk (tc us 0 qw) [] um w)
 | .r us => .r (.mk (tc us 0 qw) [] um w)
 | .p ch us => .p ch (.mk (tc us 0 qw) [] um w)
def btx (o : Option Nat) : Option R := match o with
 | some m => some (.no m 0)
 | none => none
def bnh (us : List AV) (nxi : Nat) (Li : List HO) (A : List SA) (bd : Option (SE × SE)) (r : LR) (nxo : Nat) (Lo : List HO) (vs : List AV) (um : UM) (w : W) (nx : Nat) (KL : List (Nat × Nat)) (θ : Nat → GE) (A0 : List SA) (Li' Lo' : List HO) : Option R :=
 bc (btt vs us nxi nxo nx KL θ A A0 Li Lo Li' Lo' w && br4 bd θ A0) (some (rOf (bky (jj (ja KL nxi nx) θ A0 8) r) um (.mk (aei Lo' (yj Li' (hOf w))) (K.of (nx + (nxo - nxi)))))) (btx (byg (byd vs us nxi nxo nx KL θ A0 Li Lo Li' Lo' w) (a8p bd θ A A0)))
def axf (us : List AV) (nxi : Nat) (Li : List HO) (A : List SA) (bd : Option (SE × SE)) (r : LR) (nxo : Nat) (Lo : List HO) (vs : List AV) (um : UM) (w : W) (M : MT) (A0 : List SA) : Option R :=
 bc (a4s (thM M)) (bnh us nxi Li A bd r nxo Lo vs um w (wnx w).num (a0q M) (ax0 M) A0 (de (ja (a0q M) nxi (wnx w).num) (ax0 M) A0 Li) (de (ja (a0q M) nxi (wnx w).num) (ax0 M) A0 Lo)) none
def bjg (us : List AV) (nxi : Nat) (Li : List HO) (A : List SA) (bd : Option (SE × SE)) (r : LR) (nxo : Nat) (Lo : List HO) (vs : List AV) (um : UM) (w : W) (M : MT) : Option R :=
 axf us nxi Li A bd r nxo Lo vs um w M (orA (agA.firstAs vs) (bcx w (a0q M)))
def bx3 (us : List AV) (nxi : Nat) (Li : List HO) (A : List SA) (bd : Option (SE × SE)) (r : LR) (nxo : Nat) (Lo : List HO) (vs : List AV) (um : UM) (w : W) : Option R :=
 bjg us nxi Li A bd r nxo Lo vs um w (a85 w Li (mL (mAV 8) us vs (.mk [] [])))
def bmd (f nt : Nat) (b : Code) (τ : F) (um : UM) (w : W) : List LT → Option R
 | [] => none
 | .mk g k us nxi Li A bd r nxo Lo :: l => bc (Nat.beq f g && Nat.beq (y8 b) k && (afr f k).isSome && Nat.beq (cy us) nt && Nat.beq (cy (avs r)) nt) (match bx3 us nxi Li A bd r nxo Lo (ti τ nt 0) um w with
   | some R => some R
   | none => bmd f nt b τ um w l) (bmd f nt b τ um w l)
def lpT (l : List LT) : abj := fun C b S => match C, S with
 | .mk f nt false none, .mk τ [] um w => bmd f nt b τ um w l
 | _, _ => none
end
section
variable [Gv]
def a91 (ρ : Env) (aw : W) (w : World) (cs : List Frame) (r : LR) (aw' : W) (e : Exit) (a' : Act) (cs' : List Frame) (w' : World) : Prop := cs' = cs ∧ a'.defers = [] ∧ ∃ ρ', Adv ρ aw w ρ' aw' w' ∧ match r with
 | .x id us => e = .exit id ∧ VRels ρ' us a'.tmps.toList
 | .r us => e = .ret ∧ VRels ρ' us a'.tmps.toList
 | .p ch us => ∃ ch', e = .panic ch' ∧ ChRel ρ' ch ch' ∧ VRels ρ' us a'.tmps.toList
def b7 (f k : Nat) (us : List AV) (nxi : Nat) (Li : List HO) (r : LR) (nxo : Nat) (Lo : List HO) : Prop :=
 ∀ b, afr f k = some b → ∀ (ρ : Env) (a : Act) (cs : List Frame) (w : World), GRel ρ → WRel ρ (ax Li nxi) w → Clean ρ (ax Li nxi) → us.length ≤ 512 → VRels ρ us a.tmps.toList → a.defers = [] →
  WS false none f PP (.loop b) (a91 ρ (ax Li nxi) w cs r (ax Lo nxo)) a cs w ∧ WL false none f PP b (a91 ρ (ax Li nxi) w cs r (ax Lo nxo)) a cs w
def au : LT → Prop
 | .mk f k us nxi Li A bd r nxo Lo => ∀ σ : Nat → List Int, σ 99 = Gv.σ 99 → SAll σ A → ayg σ bd → @b7 ⟨σ⟩ f k us nxi Li r nxo Lo
theorem mz : ∀ (x b : Code), b ∈ ew x → CSub (.loop b) x
 | .seq x y, b, h => by
   simp only [ew, List.mem_append] at h
   rcases h with h | h
   ·exact sub_up (mz x b h) (.seqL (.refl _))
   ·exact sub_up (mz y b h) (.seqR (.refl _))
 | .cond v x y, b, h => by
   simp only [ew, List.mem_append] at h
   rcases h with h | h
   ·exact sub_up (mz x b h) (.condT (.refl _))
   ·exact sub_up (mz y b h) (.condF (.refl _))
 | .block id x, b, h => sub_up (mz x b (by simpa [ew] using h)) (.block (.refl _))
 | .loop x, b, h => by
   simp only [ew, List.mem_cons] at h
   rcases h with h | h
   ·subst h; exact .refl _
   ·exact sub_up (mz x b h) (.loop (.refl _))
 | .skip, _, h | .region .., _, h | .rangeFunc .., _, h | .exit _, _, h | .scope _, _, h | .label _, _, h | .goto _, _, h | .ret, _, h | .refuse _, _, h => by simp [ew] at h
where
 sub_up {a b c : Code} (h : CSub a b) (g : CSub b c) : CSub a c := by
  induction h with
  | refl => exact g
  | seqL _ ih => exact .seqL (ih g)
  | seqR _ ih => exact .seqR (ih g)
  | condT _ ih => exact .condT (ih g)
  | condF _ ih => exact .condF (ih g)
  | block _ ih => exact .block (ih g)
  | loop _ ih => exact .loop (ih g)
theorem bfh {a x : Code} (h : CSub a x) : ∀ b, b ∈ ew a → b ∈ ew x := by
 induction h with
 | refl => exact fun b h => h
 | seqL _ ih => exact fun b h => ih b (by simp [ew, h])
 | seqR _ ih => exact fun b h => ih b (by simp [ew, h])
 | condT _ ih => exact fun b h => ih b (by simp [ew, h])
 | condF _ ih => exact fun b h => ih b (by simp [ew, h])
 | block _ ih => exact fun b h => ih b (by simp [ew, h])
 | loop _ ih => exact fun b h => ih b (by simp [ew, h])
theorem pickId_mem {k : Nat} {c : Code} : ∀ {l : List Code}, c ∈ ab5 k l ↔ c ∈ l ∧ y8 c = k
 | [] => by simp [ab5]
 | x :: l => by
   simp only [ab5, ab]
   split
   ·rename_i h
    have h := zW h
    simp only [List.mem_cons, pickId_mem (l := l)]
    constructor
    ·rintro (rfl | ⟨h1, h2⟩)
     ·exact ⟨.inl rfl, h⟩
     ·exact ⟨.inr h1, h2⟩
    ·rintro ⟨rfl | h1, h2⟩
     ·exact .inl rfl
     ·exact .inr ⟨h1, h2⟩
   ·rename_i h
    simp only [List.mem_cons, pickId_mem (l := l)]
    constructor
    ·rintro ⟨h1, h2⟩; exact ⟨.inr h1, h2⟩
    ·rintro ⟨rfl | h1, h2⟩
     ·exact absurd (by rw [h2]; exact Nat.beq_refl k) h
     ·exact ⟨h1, h2⟩
theorem bo6 {l : List Code} {b : Code} (h : b3a l = some b) : l = [b] := by
 unfold b3a at h
 split at h
 ·injection h with h; rw [h]
 ·cases h
theorem ajq {f k : Nat} {b : Code} (h : afr f k = some b) : InF f (.loop b) ∧ ∀ c, InF f (.loop c) → y8 c = k → c = b := by
 unfold afr at h
 split at h
 ·rename_i x hx
  have h := bo6 h
  have hb : b ∈ ab5 k (ew x.2) := by rw [h]; simp
  refine ⟨⟨x.1, x.2, hx, mz _ _ (pickId_mem.1 hb).1⟩, ?_⟩
  rintro c ⟨fn, y, h1, h2⟩ hc
  rw [hx] at h1
  injection h1 with h1
  have : y = x.2 := by rw [h1]
  subst this
  have : c ∈ ab5 k (ew x.2) := pickId_mem.2 ⟨bfh h2 c (by simp [ew]), hc⟩
  rw [h] at this
  simpa using this
 ·cases h
theorem acz {ρ : Env} {τ : F} {tmps : Array Value} (hf : FRel ρ τ tmps) : ∀ (n i : Nat), i + n = tmps.size → VRels ρ (ti τ n i) (tmps.toList.drop i)
 | 0, i, h => by
   simp only [ti, VRels]
   exact List.drop_eq_nil_of_le (by simp; omega)
 | n + 1, i, h => by
   simp only [ti, VRels]
   refine ⟨tmps.getD i undef, tmps.toList.drop (i + 1), ?_, hf i, acz hf n (i + 1) (by omega)⟩
   have hi : i < tmps.toList.length := by simp; omega
   rw [List.drop_eq_getElem_cons hi]
   congr 1
   have hi' : i < tmps.size := by omega
   simp [Array.getD, hi']
theorem apa {ρ : Env} {us : List AV} {tmps : Array Value} (hv : VRels ρ us tmps.toList) (hn : us.length ≤ 512) : FRel ρ (tc us 0 qw) tmps := by
 have hlen : tmps.size = us.length := by have := VRels.length _ _ hv; simpa using this
 have := as5 (nt := tmps.size) hv (by omega) (by omega)
 simpa using this
theorem a9r {d : Bool} {ro : Option Nat} {fn : Nat} {P : Program} {c : Code} {Q Q' : Exit → Act → List Frame → World → Prop} {a : Act} {cs : List Frame} {w : World} (h : WL d ro fn P c Q a cs w) (hq : ∀ e a cs w, Q e a cs w → Q' e a cs w) : WL d ro fn P c Q' a cs w :=
 fun b k h1 h2 h3 => let ⟨e, a', cs', w', q, r⟩ := h b k h1 h2 h3; ⟨e, a', cs', w', hq _ _ _ _ q, r⟩
theorem bjh {ρ : Env} {aw aw2 : W} {w : World} {c₀ : Frame} {cs : List Frame} {r : LR} {um : UM} {nt : Nat} {e : Exit} {a' : Act} {cs' : List Frame} {w' : World} {ρ' : Env} (hg : GRel ρ) (hc : Clean ρ aw) (hcs : cs' = cs) (hd : a'.defers = []) (hA : Adv ρ aw w ρ' aw2 w')
  (hn : (avs r).length = nt) (h512 : nt ≤ 512)
  (hp : match r with
    | .x id us => e = .exit id ∧ VRels ρ' us a'.tmps.toList
    | .r us => e = .ret ∧ VRels ρ' us a'.tmps.toList
    | .p ch us => ∃ ch', e = .panic ch' ∧ ChRel ρ' ch ch' ∧ VRels ρ' us a'.tmps.toList) : Post ρ aw w nt false c₀ cs (rOf r um aw2) e a' cs' w' := by
 have hS : VRels ρ' (avs r) a'.tmps.toList → SRel ρ' nt false c₀ cs (tc (avs r) 0 qw) [] um aw2 a' cs' w' := by
  intro hv
  have hlen : a'.tmps.size = (avs r).length := by have := VRels.length _ _ hv; simpa using this
  exact ⟨hg.mono hA.le, hA.rel, hc.adv hA, apa hv (by omega), by omega, h512, hd, hcs⟩
 cases r with
 | x id us => exact ⟨hp.1, ρ', hA, hS hp.2⟩
 | r us => exact ⟨hp.1, ρ', hA, hS hp.2⟩
 | p ch us => obtain ⟨ch', h1, h2, h3⟩ := hp; exact ⟨ch', ρ', h1, h2, hA, hS h3⟩
theorem bhi (f : AV → AV) (r : LR) : (avs (bky f r)).length = (avs r).length := by cases r <;> exact ta _ _
set_option maxHeartbeats 1000000 in
theorem a2m {f k : Nat} {us : List AV} {nxi : Nat} {Li : List HO} {A : List SA} {bd : Option (SE × SE)} {r : LR} {nxo : Nat} {Lo : List HO} (hT : au (.mk f k us nxi Li A bd r nxo Lo)) {um : UM} {τ : F} {aw : W} {nt : Nat} {KL : List (Nat × Nat)} {θ : Nat → GE} {A0 : List SA}
  (h99 : (θ 99).eval Gv.σ = Gv.σ 99) {R : R} (hR : R.ok) {b : Code} (hb : afr f k = some b) (hus : us.length = nt) (hru : (avs r).length = nt) (h512 : nt ≤ 512)
  (hr : bnh us nxi Li A bd r nxo Lo (ti τ nt 0) um aw (wnx aw).num KL θ A0 (de (ja KL nxi (wnx aw).num) θ A0 Li) (de (ja KL nxi (wnx aw).num) θ A0 Lo) = some R)
  {ρ : Env} {c₀ : Frame} {cs₀ : List Frame} {a : Act} {cs : List Frame} {w : World} (hA : SAll Gv.σ A0) (h : SRel ρ nt false c₀ cs₀ τ [] um aw a cs w) :
  WS false none f PP (.loop b) (Post ρ aw w nt false c₀ cs₀ R) a cs w ∧ WL false none f PP b (Post ρ aw w nt false c₀ cs₀ R) a cs w := by
 unfold bnh at hr
 rw [ab] at hr
 split at hr
 case isFalse =>
  unfold btx at hr
  split at hr
  ·injection hr with hr; subst hr; exact hR.elim
  ·cases hr
 rename_i hok
 injection hr with hr
 subst hr
 rw [zU] at hok
 obtain ⟨hok, hbd⟩ := hok
 unfold btt at hok
 obtain ⟨k1, hok⟩ := bcT.1 hok
 obtain ⟨k2, hok⟩ := bcT.1 hok
 obtain ⟨k3, hok⟩ := bcT.1 hok
 obtain ⟨k4, k5⟩ := bcT.1 hok
 simp only [zU] at k1 k2 k3 k4
 obtain ⟨⟨⟨⟨b1, b2⟩, b3⟩, b4⟩, b5⟩ := k1
 obtain ⟨⟨⟨⟨d1, d2⟩, d3⟩, d4⟩, d5⟩ := k2
 obtain ⟨f1, f2⟩ := k3
 obtain ⟨⟨g1, g2⟩, g3⟩ := k4
 have b1 := zE b1
 have b2 := zE b2
 have b3 := zE b3
 have b4 := zE b4
 have b5 := zE b5
 have hSA := ae0 hA k5
 have sub := a3c hA (nx := (wnx aw).num) (K.of_of _) g1 g2
 have hcl : Clean ρ (ax (de (ja KL nxi (wnx aw).num) θ A0 Li) (wnx aw).num) := fun k hk => h.cl k (by rw [← sub.nx]; exact hk)
 obtain ⟨ρt, q1, q2, q3, q4, q5⟩ := bkj (σ := Gv.σ) (θ := θ) hA b1 b2 b3 b4 b5 d1 d2 d3 d4 h.g (h.wr.sub sub) hcl
 have hv : VRels ρ (ti τ nt 0) a.tmps.toList := by
  have := acz h.fr nt 0 (by rw [h.sz]; omega)
  simpa using this
 have hv' : @VRels (GvS Gv.σ θ) ρt us a.tmps.toList := a6u (fun x v p h => fwd hA q4 8 x v p h) d5 (ah3 (agu hA 8) g3 hv)
 have hds : a.defers = [] := h.dr
 have hcs : cs = cs₀ := h.um
 have key := hT (fun i => (θ i).eval Gv.σ) h99 hSA (ba4 hA hbd) b hb ρt a cs w q1 q2 q3 (by omega) hv' hds
 have fin : ∀ e a' cs' w', @a91 (GvS Gv.σ θ) ρt (ax Li nxi) w cs r (ax Lo nxo) e a' cs' w' →
   Post ρ aw w nt false c₀ cs₀ (rOf (bky (jj (ja KL nxi (wnx aw).num) θ A0 8) r) um (.mk (aei (de (ja KL nxi (wnx aw).num) θ A0 Lo) (yj (de (ja KL nxi (wnx aw).num) θ A0 Li) (hOf aw))) (K.of ((wnx aw).num + (nxo - nxi))))) e a' cs' w' := by
  intro e a' cs' w' hp
  obtain ⟨p1, p2, ρ1, hA1, hp⟩ := hp
  obtain ⟨ρ', hA2, hkb⟩ := q5 ρ1 w' hA1
  have hA3 := aj5 h.wr h.cl sub f1 f2 b5 hA2
  have back : ∀ {us : List AV} {xs : List Value}, @VRels (GvS Gv.σ θ) ρ1 us xs → VRels ρ' (shL (jj (ja KL nxi (wnx aw).num) θ A0 8) us) xs := fun hv => a47 (fun x v h => bwd hA hkb 8 x v h) hv
  subst p1 hcs
  refine bjh h.g h.cl rfl p2 hA3 (by rw [bhi]; exact hru) h512 ?_
  cases r with
  | x id us => exact ⟨hp.1, back hp.2⟩
  | r us => exact ⟨hp.1, back hp.2⟩
  | p ch us => obtain ⟨ch', h1, h2, h3⟩ := hp; exact ⟨ch', h1, bl5 hA hkb h2, back h3⟩
 exact ⟨zx key.1 fin, a9r key.2 fin⟩
theorem a9d {f nt : Nat} {b : Code} {τ : F} {um : UM} {aw : W} {R : R} (hR : R.ok) (hin : InF f (.loop b)) {ρ : Env} {c₀ : Frame} {cs₀ : List Frame} {a : Act} {cs : List Frame} {w : World} (h : SRel ρ nt false c₀ cs₀ τ [] um aw a cs w) :
  ∀ l : List LT, (∀ t ∈ l, au t) → bmd f nt b τ um aw l = some R → WS false none f PP (.loop b) (Post ρ aw w nt false c₀ cs₀ R) a cs w ∧ WL false none f PP b (Post ρ aw w nt false c₀ cs₀ R) a cs w
 | [], _, hr => by cases hr
 | .mk g k us nxi Li A bd r nxo Lo :: l, hl, hr => by
   have ih := a9d (R := R) hR hin h l fun t hm => hl t (zA _ hm)
   simp only [bmd, ab] at hr
   split at hr
   ·rename_i hc
    simp only [zU] at hc
    obtain ⟨⟨⟨⟨c1, c2⟩, c3⟩, c4⟩, c5⟩ := hc
    have c1 := zW c1
    have c2 := zW c2
    have c4 := zW c4
    have c5 := zW c5
    rw [bf] at c4 c5
    subst c1 c2
    obtain ⟨b', hb'⟩ := Option.isSome_iff_exists.1 c3
    have : b = b' := (ajq hb').2 b hin rfl
    subst this
    split at hr
    ·rename_i c ht
     injection hr with hr
     subst hr
     unfold bx3 bjg axf at ht
     rw [ab] at ht
     split at ht <;> try (cases ht; done)
     rename_i h99
     have hv : VRels ρ (ti τ nt 0) a.tmps.toList := by
      have := acz h.fr nt 0 (by rw [h.sz]; omega)
      simpa using this
     refine a2m (hl _ (by simp)) ?_ hR hb' c4 c5 h.le ht (nc (rm hv) (a1w (nx := 0) h.wr _)) h
     have : ∀ M : MT, a4s (thM M) = true → ax0 M 99 = .s 99 := by
      intro M hM
      obtain ⟨KL, TH⟩ := M
      show (match abx TH 99 with | some g => g | none => GE.s 99) = _
      have e : abx TH 99 = none := ajt hM
      rw [e]
     rw [this _ h99]
     simp only [GE.eval]
    ·exact ih hr
   ·exact ih hr
theorem au9 (l : List LT) (hl : ∀ t ∈ l, au t) : alc (lpT l) := by
 intro f nt d rk b τ ds um aw R hr hok
 unfold lpT at hr
 split at hr
 ·rename_i heq1 heq2
  injection heq1 with e1 e2 e3 e4
  injection heq2 with e5 e6 e7 e8
  subst e1 e2 e3 e4 e5 e6 e7 e8
  exact ⟨rfl, fun hin ρ c₀ cs₀ a cs w h => a9d hok hin h l hl hr⟩
 ·cases hr
theorem a22 (ρ : Env) (k : K) : px ρ ρ k k := fun c h => ⟨h, rfl⟩
end
noncomputable section
def aVs (A : List SA) (us : List AV) : List AV := shL (jj (fun k => k) GE.s A 8) us
def aHO (A : List SA) : List HO → List HO
 | [] => []
 | .mk k o :: l => .mk k (aeu (fun k => k) GE.s A o) :: aHO A l
def aex : List HO → Bool
 | [] => true
 | .mk _ o :: l => bc (ahm o) (aex l) false
def bqf (T : List (Nat × Nat)) (nxi : Nat) (E : EqL) (τ : F) (nt : Nat) (us : List AV) : Bool := leAV.leL (leR (abm T nxi) E 8) (ti τ nt 0) us
def bk7 (f : AV → AV → Bool) : List PE → List PE → Bool
 | [], [] => true
 | .mk v b :: l, .mk u c :: m => bc (f v u) (bc (btl b c) (bk7 f l m) false) false
 | _, _ => false
def a60 (T : List (Nat × Nat)) (nxi nxo : Nat) (E : EqL) (Lo : List HO) (w : W) : Bool :=
 bc (Nat.ble 256 nxi && Nat.ble nxi nxo && Nat.ble nxo 65535) (bc (tabOk Lo T nxi nxo T) (bc (vm laidL w) (a31 T E nxi w Lo) false) false) false
def xh (T : List (Nat × Nat)) (nxi nxo : Nat) (E : EqL) (Lo : List HO) (nt : Nat) (r : LR) (R : R) : Bool := match r, R with
 | .x id us, .x id' (.mk τ [] _ w) => bc (Nat.beq id id') (bc (bqf T nxi E τ nt us) (a60 T nxi nxo E Lo w) false) false
 | .r us, .r (.mk τ [] _ w) => bc (bqf T nxi E τ nt us) (a60 T nxi nxo E Lo w) false
 | .p ch us, .p ch' (.mk τ [] _ w) => bc (bk7 (leR (abm T nxi) E 8) ch' ch) (bc (bqf T nxi E τ nt us) (a60 T nxi nxo E Lo w) false) false
 | _, _ => false
def aio (T : List (Nat × Nat)) (nxi nxo : Nat) (E : EqL) (Lo : List HO) (r : TR) (R : CR) : Bool := match r, R with
 | .ret v, .ret v' w => bc (leR (abm T nxi) E 8 v' v) (a60 T nxi nxo E Lo w) false
 | .pan ch, .pan ch' w => bc (bk7 (leR (abm T nxi) E 8) ch' ch) (a60 T nxi nxo E Lo w) false
 | _, _ => false
end
section
variable [Gv]
theorem bdv {ρ : Env} {A : List SA} (hA : SAll Gv.σ A) {us : List AV} {xs : List Value} (h : VRels ρ us xs) : VRels ρ (aVs A us) xs :=
 a47 (σ := Gv.σ) (θ := GE.s) (ρ := ρ) (ρt := ρ) (fun x v h => bwd (σ := Gv.σ) (θ := GE.s) hA (fun k => a22 ρ k) 8 x v h) h
theorem b9t {A : List SA} (hA : SAll Gv.σ A) {nx : Nat} : ∀ {L : List HO}, aex L = true → ∀ k, ac k (ae (aHO A L)) ≠ .none →
  ac k (ae L) ≠ .none ∧ (ac k (ae (aHO A L))).isRo = (ac k (ae L)).isRo ∧ ∀ ρ x, ORel ρ (ac k (ae L)) x → ORel ρ (ac k (ae (aHO A L))) x
 | [], _, k, h => ⟨h, rfl, fun _ _ h => h⟩
 | .mk n o :: L, ht, k, h => by
   simp only [aex] at ht
   obtain ⟨t1, t2⟩ := bcT.1 ht
   simp only [aHO, ae] at h ⊢
   by_cases e : k = K.of n
   ·subst e
    rw [ak, ak]
    exact ⟨nd _, ars _ _ _ _, fun ρ x hx => b8z (σ := Gv.σ) (θ := GE.s) hA (fun k => a22 ρ k) t1 hx⟩
   ·rw [av e] at h ⊢
    rw [av e]
    exact b9t (nx := nx) hA t2 k h
theorem aLh {A : List SA} : ∀ {L : List HO} (k : K) (kd : Nat) (g : GE), bu (ac k (ae (aHO A L))) = some (kd, g) → ∃ g', bu (ac k (ae L)) = some (kd, g') ∧ g.eval Gv.σ = g'.eval Gv.σ
 | [], k, kd, g, h => ⟨g, h, rfl⟩
 | .mk n o :: L, k, kd, g, h => by
   simp only [aHO, ae] at h ⊢
   by_cases e : k = K.of n
   ·subst e
    rw [ak] at h ⊢
    have : bu (co o) ≠ none := fun e => by rw [ao4 e] at h; cases h
    obtain ⟨kd', g', e1, e2⟩ := ar0 (κ := fun k => k) (θ := GE.s) (A := A) this
    rw [h] at e2
    injection e2 with e2
    injection e2 with e2 e3
    subst e2 e3
    exact ⟨g', e1, by rw [GE.sub_eval]; rfl⟩
   ·rw [av e] at h ⊢
    exact aLh k kd g h
theorem byt {A : List SA} (hA : SAll Gv.σ A) {nx : Nat} {L : List HO} (h : aex L = true) : Sub (ax (aHO A L) nx) (ax L nx) := ⟨rfl, b9t (nx := nx) hA h, fun k kd g h => aLh k kd g h⟩
theorem apy {ρ1 ρ2 : Env} {f : AV → AV → Bool} (hf : ∀ a b x, f a b = true → VRel ρ1 a x → VRel ρ2 b x) : ∀ {l m : List PE} {xs : List PanicEntry}, bk7 f l m = true → ChRel ρ1 l xs → ChRel ρ2 m xs
 | [], [], _, _, h => h
 | [], .mk _ _ :: _, _, h, _ => by cases h
 | .mk _ _ :: _, [], _, h, _ => by cases h
 | .mk v b :: l, .mk u c :: m, _, h, ⟨v', ch', e1, e2, e3⟩ => by
   simp only [bk7] at h
   obtain ⟨h1, h2⟩ := bcT.1 h
   obtain ⟨h2, h3⟩ := bcT.1 h2
   have h2 := auv h2
   subst h2
   exact ⟨v', ch', e1, hf _ _ _ h1 e2, apy hf h3 e3⟩
theorem ahn {T : List (Nat × Nat)} {nxi nxo : Nat} {E : EqL} {Lo : List HO} {ρ ρ1 : Env} {a a1 : W} {w w1 : World} (hc : Clean ρ a) (hnx : a.nx.num = nxi) (hE : E.all Gv.σ) (h : a60 T nxi nxo E Lo a1 = true) (hA : Adv ρ a w ρ1 a1 w1) :
  ∃ ρ2, Adv ρ a w ρ2 (ax Lo nxo) w1 ∧ ∀ k k', abm T nxi k = some k' → px ρ1 ρ2 k k' := by
 unfold a60 at h
 obtain ⟨h1, h⟩ := bcT.1 h
 obtain ⟨h2, h⟩ := bcT.1 h
 obtain ⟨h3, h4⟩ := bcT.1 h
 simp only [zU] at h1
 exact bsj hc hnx hE (zE h1.1.1) (zE h1.1.2) (zE h1.2) h2 h3 h4 hA
theorem rq {H : aqu} (hH : vk H) {L : abj} (hL : alc L) {n f k : Nat} {us : List AV} {nxi : Nat} {Li : List HO} {A : List SA} {r : LR} {nxo : Nat} {Lo : List HO} {T : List (Nat × Nat)} {E : EqL} (hA : SAll Gv.σ A) (hE : E.all Gv.σ) (hx : Nat.blt nxi 65536 = true)
  (ht : aex Li = true) (h : xh T nxi nxo E Lo (cy us) r (xq (afa f k) (ald H L n) (.mk f (cy us) false none) (.mk (tc (aVs A us) 0 qw) [] .none (ax (aHO A Li) nxi))) = true) : b7 f k us nxi Li r nxo Lo := by
 intro b hb ρ a cs w hg hw hc h512 hv hd
 have hbody : afa f k = b := by unfold afa; rw [hb]
 rw [hbody, bf] at h
 have sub := byt hA (nx := nxi) ht
 have hva := bdv hA hv
 have hlen : a.tmps.size = us.length := by have := VRels.length _ _ hv; simpa using this
 have hla : (aVs A us).length = us.length := ta _ _
 have hS : SRel ρ us.length false (default : Frame) cs (tc (aVs A us) 0 qw) [] .none (ax (aHO A Li) nxi) a cs w :=
  ⟨hg, hw.sub sub, fun k hk => hc k hk, apa hva (by omega), hlen, h512, hd, rfl⟩
 have hnum : (ax Li nxi).nx.num = nxi := ci (zE hx)
 generalize hR : xq b (ald H L n) (.mk f us.length false none) (.mk (tc (aVs A us) 0 qw) [] .none (ax (aHO A Li) nxi)) = R at h
 have hok : R.ok := by cases R <;> first | trivial | (cases r <;> cases h)
 have key := a3k (ave hH hL n) (rk := none) hS rfl (fun _ => (ajq hb).1) (by rw [hR]; exact hok)
 rw [hR] at key
 have fin : ∀ e a' cs' w', Post ρ (ax (aHO A Li) nxi) w us.length false default cs R e a' cs' w' → a91 ρ (ax Li nxi) w cs r (ax Lo nxo) e a' cs' w' := by
  intro e a' cs' w' hp
  have slots : ∀ {ρ1 ρ2 : Env} {τ : F} {um : UM} {aw : W} {vs : List AV}, SRel ρ1 us.length false default cs τ [] um aw a' cs' w' → bqf T nxi E τ us.length vs = true → (∀ k k', abm T nxi k = some k' → px ρ1 ρ2 k k') → VRels ρ2 vs a'.tmps.toList := by
   intro ρ1 ρ2 τ um aw vs hs hl hk
   have hv : VRels ρ1 (ti τ us.length 0) a'.tmps.toList := by
    have := acz hs.fr us.length 0 (by rw [hs.sz]; omega)
    simpa using this
   exact yz (aab hE hk 8) hl hv
  cases R with
  | n S => cases r <;> cases h
  | no c f => cases r <;> cases h
  | x id' S =>
    obtain ⟨τ, ds, um, aw⟩ := S
    obtain ⟨rfl, ρ1, hA1, hS1⟩ := hp
    cases r <;> try (cases h; done)
    rename_i id vs
    cases ds <;> try (cases h; done)
    simp only [xh] at h
    obtain ⟨h1, h⟩ := bcT.1 h
    obtain ⟨h2, h3⟩ := bcT.1 h
    have h1 := zW h1
    subst h1
    obtain ⟨ρ2, hA2, hk⟩ := ahn hc hnum hE h3 (hA1.left sub)
    exact ⟨hS1.um, hS1.dr, ρ2, hA2, rfl, slots hS1 h2 hk⟩
  | r S =>
    obtain ⟨τ, ds, um, aw⟩ := S
    obtain ⟨rfl, ρ1, hA1, hS1⟩ := hp
    cases r <;> try (cases h; done)
    rename_i vs
    cases ds <;> try (cases h; done)
    simp only [xh] at h
    obtain ⟨h2, h3⟩ := bcT.1 h
    obtain ⟨ρ2, hA2, hk⟩ := ahn hc hnum hE h3 (hA1.left sub)
    exact ⟨hS1.um, hS1.dr, ρ2, hA2, rfl, slots hS1 h2 hk⟩
  | p ch S =>
    obtain ⟨τ, ds, um, aw⟩ := S
    obtain ⟨ch', ρ1, rfl, hch, hA1, hS1⟩ := hp
    cases r <;> try (cases h; done)
    rename_i ch2 vs
    cases ds <;> try (cases h; done)
    simp only [xh] at h
    obtain ⟨h1, h⟩ := bcT.1 h
    obtain ⟨h2, h3⟩ := bcT.1 h
    obtain ⟨ρ2, hA2, hk⟩ := ahn hc hnum hE h3 (hA1.left sub)
    exact ⟨hS1.um, hS1.dr, ρ2, hA2, ch', rfl, apy (aab hE hk 8) h1 hch, slots hS1 h2 hk⟩
 exact ⟨zx key.1 fin, a9r key.2 fin⟩
theorem br {H : aqu} (hH : vk H) {L : abj} (hL : alc L) {n f : Nat} {us : List AV} {nxi : Nat} {Li : List HO} {A : List SA} {r : TR} {nxo : Nat} {Lo : List HO} {T : List (Nat × Nat)} {E : EqL} (hA : SAll Gv.σ A) (hE : E.all Gv.σ) (hx : Nat.blt nxi 65536 = true)
  (ht : aex Li = true) (h : aio T nxi nxo E Lo r (enter (ald H L n) f (aVs A us) (ax (aHO A Li) nxi)) = true) : ba f us nxi Li r nxo Lo := by
 intro ρ args w hg hw hc hv
 have sub := byt hA (nx := nxi) ht
 have hnum : (ax Li nxi).nx.num = nxi := ci (zE hx)
 generalize hR : enter (ald H L n) f (aVs A us) (ax (aHO A Li) nxi) = R at h
 have hok : R.ok := by cases R <;> first | trivial | (cases r <;> cases h)
 have key := y2 (ave hH hL n) hg (hw.sub sub) (fun k hk => hc k hk) (f := f) (bdv hA hv) (by rw [hR]; exact hok)
 rw [hR] at key
 refine Calls.mono key fun e w' hp => ?_
 cases R with
 | no => cases r <;> cases h
 | ret v' aw =>
   cases r <;> try (cases h; done)
   rename_i v
   obtain ⟨x, ρ1, rfl, hv', hA1⟩ := hp
   simp only [aio] at h
   obtain ⟨h1, h2⟩ := bcT.1 h
   obtain ⟨ρ2, hA2, hk⟩ := ahn hc hnum hE h2 (hA1.left sub)
   exact ⟨x, ρ2, rfl, aab hE hk 8 _ _ _ h1 hv', hA2⟩
 | pan ch' aw =>
   cases r <;> try (cases h; done)
   rename_i ch
   obtain ⟨x, ρ1, rfl, hv', hA1⟩ := hp
   simp only [aio] at h
   obtain ⟨h1, h2⟩ := bcT.1 h
   obtain ⟨ρ2, hA2, hk⟩ := ahn hc hnum hE h2 (hA1.left sub)
   exact ⟨x, ρ2, rfl, apy (aab hE hk 8) h1 hv', hA2⟩
end
end Go.Ev
set_option maxRecDepth 100000
set_option linter.all false
namespace Go.Ev
noncomputable section
def agl (A1 : List SA) (l : List TM) (f : FuncId) (vs : List AV) (w : W) : Option CR := match l with
 | [] => none
 | .mk g us nxi Li A bd r nxo Lo :: l => bc (Nat.beq f g) (match bl2 us nxi Li A bd r nxo Lo vs w (a85 w Li (mL (mAV 8) us vs (.mk [] []))) A1 with
   | some c => some c
   | none => agl A1 l f vs w) (agl A1 l f vs w)
def a1q (A1 : List SA) (f nt : Nat) (b : Code) (τ : F) (um : UM) (w : W) : List LT → Option R
 | [] => none
 | .mk g k us nxi Li A bd r nxo Lo :: l => bc (Nat.beq f g && Nat.beq (y8 b) k && (afr f k).isSome && Nat.beq (cy us) nt && Nat.beq (cy (avs r)) nt) (match axf us nxi Li A bd r nxo Lo (ti τ nt 0) um w (a85 w Li (mL (mAV 8) us (ti τ nt 0) (.mk [] []))) A1 with
   | some R => some R
   | none => a1q A1 f nt b τ um w l) (a1q A1 f nt b τ um w l)
def b4k (A1 : List SA) (l : List LT) : abj := fun C b S => match C, S with
 | .mk f nt false none, .mk τ [] um w => a1q A1 f nt b τ um w l
 | _, _ => none
end
section
variable [Gv]
theorem bal {M : MT} (h : a4s (thM M) = true) : (ax0 M 99).eval Gv.σ = Gv.σ 99 := by
 obtain ⟨KL, TH⟩ := M
 have e : abx TH 99 = none := ajt h
 show (match abx TH 99 with | some g => g | none => GE.s 99).eval Gv.σ = _
 rw [e]
 simp only [GE.eval]
theorem apu {A1 : List SA} (hA1 : SAll Gv.σ A1) : ∀ (l : List TM), (∀ t ∈ l, am t) → vk (agl A1 l)
 | [], _ => fun _ _ _ _ h => by cases h
 | .mk g us nxi Li A bd r nxo Lo :: l, h => by
   have ih := apu hA1 l fun t hm => h t (zA _ hm)
   intro f vs aw R hr hok
   simp only [agl, ab] at hr
   split at hr
   ·rename_i hf
    have hf := zW hf
    subst hf
    split at hr
    ·rename_i c ht
     injection hr with hr
     subst hr
     intro ρ args w hg hw hc hv
     unfold bl2 at ht
     rw [ab] at ht
     split at ht <;> try (cases ht; done)
     rename_i h99
     exact bnu (h _ (by simp)) (bal h99) hok ht hA1 hg hw hc hv
    ·exact ih f vs aw R hr hok
   ·exact ih f vs aw R hr hok
theorem a00 {A1 : List SA} (hA1 : SAll Gv.σ A1) {f nt : Nat} {b : Code} {τ : F} {um : UM} {aw : W} {R : R} (hR : R.ok) (hin : InF f (.loop b)) {ρ : Env} {c₀ : Frame} {cs₀ : List Frame} {a : Act} {cs : List Frame} {w : World} (h : SRel ρ nt false c₀ cs₀ τ [] um aw a cs w) :
  ∀ l : List LT, (∀ t ∈ l, au t) → a1q A1 f nt b τ um aw l = some R → WS false none f PP (.loop b) (Post ρ aw w nt false c₀ cs₀ R) a cs w ∧ WL false none f PP b (Post ρ aw w nt false c₀ cs₀ R) a cs w
 | [], _, hr => by cases hr
 | .mk g k us nxi Li A bd r nxo Lo :: l, hl, hr => by
   have ih := a00 hA1 (R := R) hR hin h l fun t hm => hl t (zA _ hm)
   simp only [a1q, ab] at hr
   split at hr
   ·rename_i hc
    simp only [zU] at hc
    obtain ⟨⟨⟨⟨c1, c2⟩, c3⟩, c4⟩, c5⟩ := hc
    have c1 := zW c1
    have c2 := zW c2
    have c4 := zW c4
    have c5 := zW c5
    rw [bf] at c4 c5
    subst c1 c2
    obtain ⟨b', hb'⟩ := Option.isSome_iff_exists.1 c3
    have : b = b' := (ajq hb').2 b hin rfl
    subst this
    split at hr
    ·rename_i c ht
     injection hr with hr
     subst hr
     unfold axf at ht
     rw [ab] at ht
     split at ht <;> try (cases ht; done)
     rename_i h99
     exact a2m (hl _ (by simp)) (bal h99) hR hb' c4 c5 h.le ht hA1 h
    ·exact ih hr
   ·exact ih hr
theorem bs7 {A1 : List SA} (hA1 : SAll Gv.σ A1) (l : List LT) (hl : ∀ t ∈ l, au t) : alc (b4k A1 l) := by
 intro f nt d rk b τ ds um aw R hr hok
 unfold b4k at hr
 split at hr
 ·rename_i heq1 heq2
  injection heq1 with e1 e2 e3 e4
  injection heq2 with e5 e6 e7 e8
  subst e1 e2 e3 e4 e5 e6 e7 e8
  exact ⟨rfl, fun hin ρ c₀ cs₀ a cs w h => a00 hA1 hok hin h l hl hr⟩
 ·cases hr
end
end Go.Ev
set_option maxRecDepth 100000
set_option linter.all false
namespace Go.Ev
noncomputable section
inductive LTD where
 | mk (f k : Nat) (us : List AV) (ds : List AD) (nxi : Nat) (Li : List HO) (A : List SA) (bd : Option (SE × SE)) (r : LR) (nxo : Nat) (Lo : List HO)
end
section
variable [Gv]
set_option maxHeartbeats 1000000 in
end
noncomputable section
end
section
variable [Gv]
end
end Go.Ev
set_option maxRecDepth 100000
set_option linter.all false
namespace Go.Ev
section
variable [Gv]
structure GhK (kd : Nat) (l : List Int) (pN pS : Prop) (oN : AObj) (oS : K → AObj) (oB : AObj) : Prop where
 opn : ∀ c F H, ao5 kd l c F H → (pN ∧ (∀ ρ, ORel ρ oN H[c]?) ∧ F = fun x => x = c) ∨ (pS ∧ ∃ b n, b ≠ c ∧ (F = fun x => x = c ∨ x = b) ∧ (∃ arr t fz, H[b]? = some (.cells arr t fz) ∧ arr.size = n) ∧ ∀ ρ k, ρ k = some b → ρ.sz k = n → ORel ρ (oS k) H[c]? ∧ ORel ρ oB H[b]?)
 clN : pN → ∀ ρ c H, ORel ρ oN H[c]? → ao5 kd l c (fun x => x = c) H
 clS : pS → ∀ (ρ : Env) k b c H, ρ k = some b → b ≠ c → (∀ arr t fz, H[b]? = some (.cells arr t fz) → arr.size = ρ.sz k) → ORel ρ (oS k) H[c]? → ORel ρ oB H[b]? → ao5 kd l c (fun x => x = c ∨ x = b) H
variable {ρ ρ1 ρ2 : Env} {w w' : World} {a1 : W}
theorem bv (n : Nat) (o : LO) (L : List HO) (k : K) : ac k (ae (.mk n o :: L)) = if k = K.of n then co o else ac k (ae L) := by
 simp only [ae]
 by_cases e : k = K.of n
 ·rw [e, if_pos rfl, ak]
 ·rw [if_neg e, av e]
def xx (nxi : Nat) (L : List HO) : Prop := ∀ n o, HO.mk n o ∈ L → 257 ≤ n ∧ n < nxi ∧ bu (co o) = none
theorem bbx {k : K} (h : ac k (ly laidL) ≠ .none) : k.num ≤ 255 := by
 obtain ⟨g, cs, h1, h2, h3, h4, h5⟩ := aap h
 exact h4
theorem b0c {k : K} (h : ac k (ly laidL) ≠ .none) : (ac k (ly laidL)).isRo = true := by
 obtain ⟨g, cs, h1, h2, h3, h4, h5⟩ := aap h
 rw [h5]; rfl
omit [Gv] in
theorem b0l : (K.of 256).num = 256 := ci (by omega)
theorem aff {nxi : Nat} (hx : nxi ≤ 65535) {L : List HO} (hL : xx nxi L) {k : K} (h : ac k (ae L) ≠ .none) : (257 ≤ k.num ∧ k.num < nxi ∨ k.num ≤ 255) ∧ bu (ac k (ae L)) = none := by
 rcases jm k L h with ⟨n, o, q1, q2, q3⟩ | ⟨g, cs, q1, q2, q3⟩
 ·obtain ⟨a, b, c⟩ := hL n o q1
  subst q2
  rw [ci (by omega), q3]
  exact ⟨.inl ⟨a, b⟩, c⟩
 ·rw [q3]
  refine ⟨.inr ?_, rfl⟩
  subst q2
  obtain ⟨f1, f2, f3⟩ := kh _ jo g cs q1
  rw [ci (by omega)]; omega
theorem a4v {nxi : Nat} (hx : nxi ≤ 65535) {L : List HO} (hL : xx nxi L) {k : K} (h1 : k.num = 256 ∨ nxi ≤ k.num) (h2 : 256 ≤ nxi) : ac k (ae L) = .none := by
 apply Classical.byContradiction
 intro h
 have := (aff hx hL h).1
 omega
structure Opened (nxi nx1 : Nat) (ρ : Env) (aG : W) (ρ1 : Env) (a1 : W) : Prop where
 nx : a1.nx.num = nx1
 le0 : nxi ≤ nx1
 le : ρ.le ρ1
 rng : ∀ k, ρ1 k = ρ k ∨ (nxi ≤ k.num ∧ k.num < nx1)
 own : ∀ c, Own ρ1 a1 c → Own ρ aG c
 fts : ∀ k, ρ1.ft k = ρ.ft k
 lh : ∀ k, bu (ac k a1.h) = none
theorem a1f {kd nxi nx1 nxo : Nat} {g g' : GE} {Lr : List HO} {out : List HO} {pN pS : Prop} {loN : LO} {loS : Nat → LO} {loB : LO} {kx : Nat}
  (hi : 256 ≤ nxi) (hx : nxi ≤ 65535) (hxo : nxo ≤ 65535) (hkx : 257 ≤ kx ∧ kx ≤ 65535) (hL : xx nxi Lr) (hB : (co loB).isRo = false) (hk : GhK kd (g'.eval Gv.σ) pN pS (co loN) (fun k => co (loS k.num)) (co loB))
  (hw : WRel ρ (ax (.mk 256 (.gob (.lh kd g)) :: Lr) nxi) w) (hO : Opened nxi nx1 ρ (ax (.mk 256 (.gob (.lh kd g)) :: Lr) nxi) ρ1 a1) (hout : pN ∧ out = [.mk 256 loN] ∨ pS ∧ out = [.mk 256 (loS kx), .mk kx loB])
  (hA : Adv ρ1 a1 w ρ2 (ax out nxo) w') : ∃ ρ3, Adv ρ (ax (.mk 256 (.gob (.lh kd g)) :: Lr) nxi) w ρ3 (ax [.mk 256 (.gob (.lh kd g'))] nxo) w' ∧ ρ2.le ρ3 := by
 have hk0 : ac (K.of 256) (ax (.mk 256 (.gob (.lh kd g)) :: Lr) nxi).h ≠ .none := by
  show ac _ (ae _) ≠ _
  rw [bv, if_pos rfl]; exact nd _
 obtain ⟨c0, hc0, _⟩ := hw.dom _ hk0
 have hc2 : ρ2 (K.of 256) = some c0 := (hA.le _ _ (hO.le _ _ hc0).1).1
 have ael : ∀ k, ac k (ae [.mk 256 (.gob (.lh kd g'))]) ≠ .none → k = K.of 256 ∨ ac k (ly laidL) ≠ .none ∧ k ≠ K.of 256 ∧ ac k (ae [.mk 256 (.gob (.lh kd g'))]) = ac k (ly laidL) := by
  intro k h
  by_cases e : k = K.of 256
  ·exact .inl e
  ·rw [bv, if_neg e] at h ⊢
   exact .inr ⟨h, e, rfl⟩
 have outlay : ∀ k, ac k (ly laidL) ≠ .none → ac k (ae out) = ac k (ly laidL) := by
  intro k h
  have hl := bbx h
  have n1 : k ≠ K.of 256 := by rintro rfl; rw [b0l] at hl; omega
  have n2 : k ≠ K.of kx := by rintro rfl; rw [ci (by omega)] at hl; omega
  rcases hout with ⟨hpn, rfl⟩ | ⟨hps, rfl⟩
  ·rw [bv, if_neg n1]; rfl
  ·rw [bv, if_neg n1, bv, if_neg n2]; rfl
 have out0 : ac (K.of 256) (ae out) ≠ .none := by
  rcases hout with ⟨hpn, rfl⟩ | ⟨hps, rfl⟩ <;> rw [bv, if_pos rfl] <;> exact nd _
 have here : ∀ k, ac k (ae [.mk 256 (.gob (.lh kd g'))]) ≠ .none → ac k (ae out) ≠ .none := by
  intro k h
  rcases ael k h with rfl | ⟨h1, h2, h3⟩
  ·exact out0
  ·rw [outlay k h1]; exact h1
 obtain ⟨F', hF0, hFr, hFl, hFs, hFo⟩ : ∃ F' : Nat → Prop, F' c0 ∧ ao5 kd (g'.eval Gv.σ) c0 F' w'.heap ∧ (∀ c, F' c → c < w'.heap.size) ∧ (∀ l, ac l (ly laidL) ≠ .none → l ≠ K.of 256 → ∀ c, ρ2 l = some c → ¬ F' c) ∧ (∀ c, F' c → c = c0 ∨ Own ρ2 (ax out nxo) c) := by
  obtain ⟨c, hc, ho⟩ := hA.rel.dom (K.of 256) out0
  rw [hc2] at hc; injection hc with hc; subst hc
  have lt0 : c0 < w'.heap.size := by
   obtain ⟨y, hy⟩ := ho.some out0
   exact (zI.1 hy).1
  rcases hout with ⟨hpn, rfl⟩ | ⟨hps, rfl⟩
  ·refine ⟨fun x => x = c0, rfl, ?_, ?_, ?_, fun c h => .inl h⟩
   ·refine hk.clN hpn ρ2 c0 w'.heap ?_
    have ho : ORel ρ2 (ac (K.of 256) (ae [.mk 256 loN])) w'.heap[c0]? := ho
    rw [bv, if_pos rfl] at ho
    exact ho
   ·rintro c rfl; exact lt0
   ·rintro l hl hn c hlc rfl
    refine hn (hA.rel.inj l (K.of 256) ?_ out0 (by rw [hlc, hc2]))
    show ac l (ae _) ≠ _
    rw [outlay l hl]; exact hl
  ·have nkx : K.of kx ≠ K.of 256 := by intro e; have := congrArg K.num e; rw [ci (by omega), b0l] at this; omega
   have outx : ac (K.of kx) (ae [.mk 256 (loS kx), .mk kx loB]) = co loB := by rw [bv, if_neg nkx, bv, if_pos rfl]
   have lx : ac (K.of kx) (ax [.mk 256 (loS kx), .mk kx loB] nxo).h ≠ .none := by show ac _ (ae _) ≠ _; rw [outx]; exact nd _
   obtain ⟨b, hb, hob⟩ := hA.rel.dom (K.of kx) lx
   have hbc : b ≠ c0 := by rintro rfl; exact nkx (hA.rel.inj _ _ lx out0 (by rw [hb, hc2]))
   have ltb : b < w'.heap.size := by
    obtain ⟨y, hy⟩ := hob.some lx
    exact (zI.1 hy).1
   refine ⟨fun x => x = c0 ∨ x = b, .inl rfl, ?_, ?_, ?_, ?_⟩
   ·refine hk.clS hps ρ2 (K.of kx) b c0 w'.heap hb hbc (fun arr t fz h => hA.rel.len _ b arr t fz lx hb h) ?_ ?_
    ·have ho : ORel ρ2 (ac (K.of 256) (ae [.mk 256 (loS kx), .mk kx loB])) w'.heap[c0]? := ho
     rw [bv, if_pos rfl] at ho
     rw [ci (by omega)]
     exact ho
    ·have hob : ORel ρ2 (ac (K.of kx) (ae [.mk 256 (loS kx), .mk kx loB])) w'.heap[b]? := hob
     rw [outx] at hob
     exact hob
   ·rintro c (rfl | rfl)
    ·exact lt0
    ·exact ltb
   ·rintro l hl hn c hlc hc
    have hl2 : ac l (ax [.mk 256 (loS kx), .mk kx loB] nxo).h ≠ .none := by show ac l (ae _) ≠ _; rw [outlay l hl]; exact hl
    rcases hc with rfl | rfl
    ·exact hn (hA.rel.inj l (K.of 256) hl2 out0 (by rw [hlc, hc2]))
    ·have e := hA.rel.inj l (K.of kx) hl2 lx (by rw [hlc, hb])
     have := bbx hl
     rw [e, ci (by omega)] at this
     omega
   ·rintro c (rfl | rfl)
    ·exact .inl rfl
    ·refine .inr ⟨K.of kx, lx, ?_, .inl hb⟩
     show (ac (K.of kx) (ae _)).isRo = false
     rw [outx]; exact hB
 have hle3 : ρ2.le { ρ2 with ft := fun l => if l = K.of 256 then F' else ρ2.ft l } := fun k c h => ⟨h, rfl⟩
 have numo : (ax [.mk 256 (.gob (.lh kd g'))] nxo).nx.num = nxo := ci (by omega)
 have numi : (ax (.mk 256 (.gob (.lh kd g)) :: Lr) nxi).nx.num = nxi := ci (by omega)
 have numa : (ax out nxo).nx.num = nxo := ci (by omega)
 have hno := hA.nx
 rw [hO.nx, numa] at hno
 have hle0 := hO.le0
 refine ⟨{ ρ2 with ft := fun l => if l = K.of 256 then F' else ρ2.ft l }, ⟨⟨?_, ?_, ?_, ?_⟩, Env.le_trans (Env.le_trans hO.le hA.le) hle3, ?_, ?_, hA.size, ?_, ?_, ?_, ?_, hA.os, hA.tape, hA.output⟩, hle3⟩
 ·intro k l h1 h2 e
  exact hA.rel.inj k l (here k h1) (here l h2) e
 ·intro k h1
  have h1 : ac k (ae [.mk 256 (.gob (.lh kd g'))]) ≠ .none := h1
  obtain ⟨c, hc, ho⟩ := hA.rel.dom k (here k h1)
  refine ⟨c, hc, ?_⟩
  show ORel _ (ac k (ae _)) _
  rcases ael k h1 with rfl | ⟨q1, q2, q3⟩
  ·rw [bv, if_pos rfl]
   obtain ⟨y, hy⟩ := ho.some out0
   exact ⟨y, hy⟩
  ·rw [q3]
   have ho : ORel ρ2 (ac k (ae out)) _ := ho
   rw [outlay k q1] at ho
   exact ho.mono hle3
 ·intro k c arr t fz h1 hc hh
  exact hA.rel.len k c arr t fz (here k h1) hc hh
 ·intro k kd' gg h1
  have h1 : bu (ac k (ae [.mk 256 (.gob (.lh kd g'))])) = some (kd', gg) := h1
  rcases ael k (cj (u5 h1)) with rfl | ⟨q1, q2, q3⟩
  ·rw [bv, if_pos rfl] at h1
   injection h1 with h1
   injection h1 with e1 e2
   subst e1 e2
   have ft0 : ({ ρ2 with ft := fun l => if l = K.of 256 then F' else ρ2.ft l } : Env).ft (K.of 256) = F' := by show (if K.of 256 = K.of 256 then F' else ρ2.ft (K.of 256)) = F'; rw [if_pos rfl]
   refine ⟨?_, ?_, ?_, ?_, ?_⟩
   ·intro c hc
    have hc : ρ2 (K.of 256) = some c := hc
    rw [hc2] at hc
    obtain rfl := Option.some.inj hc
    rw [ft0]; exact hF0
   ·intro c hc
    have hc : ρ2 (K.of 256) = some c := hc
    rw [hc2] at hc
    obtain rfl := Option.some.inj hc
    rw [ft0]; exact hFr
   ·rw [ft0]; exact hFl
   ·intro l hl hn c hlc
    rw [ft0]
    rcases ael l hl with e | ⟨r1, r2, r3⟩
    ·exact absurd e hn
    ·exact hFs l r1 r2 c hlc
   ·intro l hl hn
    have hl : bu (ac l (ae [.mk 256 (.gob (.lh kd g'))])) ≠ none := hl
    rcases ael l (cj hl) with e | ⟨r1, r2, r3⟩
    ·exact absurd e hn
    ·rw [r3] at hl; exact absurd (aco l) hl
  ·rw [q3, aco] at h1; cases h1
 ·intro k
  rw [numi, numo]
  have h1 := hA.rng k
  rw [hO.nx, numa] at h1
  have h2 := hO.rng k
  show ρ2 k = ρ k ∨ _
  rcases h1 with e | e
  ·rcases h2 with e' | e'
   ·exact .inl (e.trans e')
   ·exact .inr ⟨e'.1, by omega⟩
  ·exact .inr (by omega)
 ·rw [numi, numo]; omega
 ·rintro c ⟨k, h1, h2, h3⟩
  have h1 : ac k (ae [.mk 256 (.gob (.lh kd g'))]) ≠ .none := h1
  have h2 : (ac k (ae [.mk 256 (.gob (.lh kd g'))])).isRo = false := h2
  rcases ael k h1 with rfl | ⟨q1, q2, q3⟩
  ·have fin : F' c → Own ρ (ax (.mk 256 (.gob (.lh kd g)) :: Lr) nxi) c ∨ w.heap.size ≤ c := by
    intro hf
    rcases hFo c hf with rfl | ho
    ·refine .inl ⟨K.of 256, hk0, ?_, .inl hc0⟩
     show (ac _ (ae _)).isRo = false
     rw [bv, if_pos rfl]; rfl
    ·rcases hA.own c ho with q | q
     ·exact .inl (hO.own c q)
     ·exact .inr q
   rcases h3 with h3 | ⟨_, h3⟩
   ·have h3 : ρ2 (K.of 256) = some c := h3
    rw [hc2] at h3; injection h3 with h3; subst h3
    exact fin hF0
   ·have h3 : (if K.of 256 = K.of 256 then F' else ρ2.ft (K.of 256)) c := h3
    rw [if_pos rfl] at h3
    exact fin h3
  ·rw [q3, b0c q1] at h2; cases h2
 ·intro k c h1 hc
  have h1 : ac k (ae [.mk 256 (.gob (.lh kd g'))]) ≠ .none := h1
  have hc : ρ2 k = some c := hc
  left
  rcases ael k h1 with rfl | ⟨q1, q2, q3⟩
  ·exact ⟨K.of 256, hk0, by rw [hc2] at hc; rw [hc0]; exact hc⟩
  ·have hl : ac k (ax (.mk 256 (.gob (.lh kd g)) :: Lr) nxi).h ≠ .none := by
    show ac k (ae _) ≠ _
    rw [bv, if_neg q2]
    have : ∀ L : List HO, ac k (ae L) ≠ .none := by
     intro L
     induction L with
     | nil => exact q1
     | cons y L ih => obtain ⟨n, o⟩ := y; rw [bv]; split
                      ·exact nd _
                      ·exact ih
    exact this Lr
   obtain ⟨d, hd, _⟩ := hw.dom k hl
   have := (hA.le _ _ (hO.le _ _ hd).1).1
   rw [hc] at this; injection this with this; subst this
   exact ⟨k, hl, hd⟩
 ·intro c hc hn
  exact hA.frame c hc fun q => hn (hO.own c q)
 ·intro k hk' hl
  rw [numi] at hk'
  have n0 : k ≠ K.of 256 := by
   rintro rfl
   have hl : bu (ac (K.of 256) (ae (.mk 256 (.gob (.lh kd g)) :: Lr))) = none := hl
   rw [bv, if_pos rfl] at hl
   cases hl
  have q := hA.fts k (by rw [hO.nx]; omega) (hO.lh k)
  refine ⟨?_, ?_⟩
  ·show (if k = K.of 256 then F' else ρ2.ft k) = _
   rw [if_neg n0, q.1, hO.fts]
  ·show bu (ac k (ae _)) = none
   rw [bv, if_neg n0]; exact aco k
theorem so {kd f nxi nxo : Nat} {g g' : GE} {us : List AV} {Lr : List HO} {r : TR} {pN pS pN' pS' : Prop} {loN loN' : LO} {loS loS' : Nat → LO} {loB loB' : LO}
  (hi : 256 < nxi) (hx : nxi ≤ 65533) (hxo : nxo ≤ 65535) (hL : xx nxi Lr) (h1 : bu (co loN) = none) (h2 : bu (co (loS nxi)) = none) (h3 : bu (co loB) = none)
  (r1 : (co loB).isRo = false) (r3 : (co loB').isRo = false)
  (hk : GhK kd (g.eval Gv.σ) pN pS (co loN) (fun k => co (loS k.num)) (co loB)) (hk' : GhK kd (g'.eval Gv.σ) pN' pS' (co loN') (fun k => co (loS' k.num)) (co loB'))
  (hN : pN → ∃ out kx, (257 ≤ kx ∧ kx ≤ 65535) ∧ (pN' ∧ out = [.mk 256 loN'] ∨ pS' ∧ out = [.mk 256 (loS' kx), .mk kx loB']) ∧ ba f us nxi (.mk 256 loN :: Lr) r nxo out)
  (hS : pS → ∃ out kx, (257 ≤ kx ∧ kx ≤ 65535) ∧ (pN' ∧ out = [.mk 256 loN'] ∨ pS' ∧ out = [.mk 256 (loS' kx), .mk kx loB']) ∧ ba f us (nxi + 1) (.mk 256 (loS nxi) :: .mk nxi loB :: Lr) r nxo out) :
  ba f us nxi (.mk 256 (.gob (.lh kd g)) :: Lr) r nxo [.mk 256 (.gob (.lh kd g'))] := by
 intro ρ args w hg hw hc hv
 have numi : (ax (.mk 256 (.gob (.lh kd g)) :: Lr) nxi).nx.num = nxi := ci (by omega)
 have hk0 : ac (K.of 256) (ax (.mk 256 (.gob (.lh kd g)) :: Lr) nxi).h ≠ .none := by
  show ac _ (ae _) ≠ _
  rw [bv, if_pos rfl]; exact nd _
 have hg0 : bu (ac (K.of 256) (ax (.mk 256 (.gob (.lh kd g)) :: Lr) nxi).h) = some (kd, g) := by
  show bu (ac _ (ae _)) = _
  rw [bv, if_pos rfl]; rfl
 obtain ⟨c0, hc0, _⟩ := hw.dom _ hk0
 have q := hw.gho _ kd g hg0
 have side : ∀ k, k ≠ K.of 256 → ac k (ae (.mk 256 (.gob (.lh kd g)) :: Lr)) = ac k (ae Lr) := fun k h => by rw [bv, if_neg h]
 have fin : ∀ {ρ1 : Env} {a1 : W} {nx1 kx : Nat} {out : List HO}, (257 ≤ kx ∧ kx ≤ 65535) → (pN' ∧ out = [.mk 256 loN'] ∨ pS' ∧ out = [.mk 256 (loS' kx), .mk kx loB']) → Opened nxi nx1 ρ (ax (.mk 256 (.gob (.lh kd g)) :: Lr) nxi) ρ1 a1 →
   Calls PP f args w (CPost ρ1 a1 w (bqg r (ax out nxo))) → Calls PP f args w (CPost ρ (ax (.mk 256 (.gob (.lh kd g)) :: Lr) nxi) w (bqg r (ax [.mk 256 (.gob (.lh kd g'))] nxo))) := by
  intro ρ1 a1 nx1 kx out hkx hout hO hf
  refine Calls.mono hf fun e w' hp => ?_
  cases r with
  | ret v =>
    obtain ⟨v', ρ2, e1, e2, hA⟩ := hp
    obtain ⟨ρ3, hA3, hle⟩ := a1f (by omega) (by omega) hxo hkx hL r3 hk' hw hO hout hA
    exact ⟨v', ρ3, e1, e2.mono hle, hA3⟩
  | pan ch =>
    obtain ⟨ch', ρ2, e1, e2, hA⟩ := hp
    obtain ⟨ρ3, hA3, hle⟩ := a1f (by omega) (by omega) hxo hkx hL r3 hk' hw hO hout hA
    exact ⟨ch', ρ3, e1, e2.mono hle, hA3⟩
 rcases hk.opn c0 _ w.heap (q.rel c0 hc0) with ⟨pn, ho, hF⟩ | ⟨ps, b, n, hbc, hF, ⟨arr, t, fz, hb, hn⟩, ho⟩
 ·obtain ⟨out, kx, hkx, hout, hf⟩ := hN pn
  have at0 : ac (K.of 256) (ae (.mk 256 loN :: Lr)) = co loN := by rw [bv, if_pos rfl]
  have atx : ∀ k, k ≠ K.of 256 → ac k (ae (.mk 256 loN :: Lr)) = ac k (ae Lr) := fun k h => by rw [bv, if_neg h]
  have back : ∀ k, ac k (ae (.mk 256 loN :: Lr)) ≠ .none → ac k (ae (.mk 256 (.gob (.lh kd g)) :: Lr)) ≠ .none := by
   intro k h
   by_cases e : k = K.of 256
   ·subst e; exact hk0
   ·rw [atx k e] at h; rw [side k e]; exact h
  have nolh : ∀ k, bu (ac k (ae (.mk 256 loN :: Lr))) = none := by
   intro k
   by_cases e : k = K.of 256
   ·subst e; rw [at0]; exact h1
   ·rw [atx k e]
    by_cases e2 : ac k (ae Lr) = .none
    ·rw [e2]; rfl
    ·exact (aff (by omega) hL e2).2
  have hw1 : WRel ρ (ax (.mk 256 loN :: Lr) nxi) w := by
   refine ⟨fun k l a b e => hw.inj k l (back k a) (back l b) e, fun k a => ?_, fun k c arr t fz a e1 e2 => hw.len k c arr t fz (back k a) e1 e2, fun k kd' g' a => ?_⟩
   ·have a : ac k (ae (.mk 256 loN :: Lr)) ≠ .none := a
    show ∃ c, _ ∧ ORel ρ (ac k (ae _)) _
    by_cases e : k = K.of 256
    ·subst e; rw [at0]; exact ⟨c0, hc0, ho ρ⟩
    ·obtain ⟨c, e1, e2⟩ := hw.dom k (back k a)
     have e2 : ORel ρ (ac k (ae _)) _ := e2
     rw [side k e] at e2
     rw [atx k e]; exact ⟨c, e1, e2⟩
   ·have := nolh k
    have a : bu (ac k (ae (.mk 256 loN :: Lr))) = some (kd', g') := a
    rw [this] at a; cases a
  have num1 : (ax (.mk 256 loN :: Lr) nxi).nx.num = nxi := ci (by omega)
  have hO : Opened nxi nxi ρ (ax (.mk 256 (.gob (.lh kd g)) :: Lr) nxi) ρ (ax (.mk 256 loN :: Lr) nxi) := by
   refine ⟨num1, zY _, Env.le_refl ρ, fun _ => .inl rfl, ?_, fun _ => rfl, nolh⟩
   rintro c ⟨k, k1, k2, k3⟩
   have k1 : ac k (ae (.mk 256 loN :: Lr)) ≠ .none := k1
   have k2 : (ac k (ae (.mk 256 loN :: Lr))).isRo = false := k2
   rcases k3 with k3 | ⟨k3, _⟩
   ·by_cases e : k = K.of 256
    ·subst e
     refine ⟨K.of 256, hk0, ?_, .inl k3⟩
     show (ac _ (ae _)).isRo = false
     rw [bv, if_pos rfl]; rfl
    ·refine ⟨k, back k k1, ?_, .inl k3⟩
     show (ac _ (ae _)).isRo = false
     rw [atx k e] at k2; rw [side k e]; exact k2
   ·exact absurd (nolh k) k3
  exact fin hkx hout hO (hf ρ args w hg hw1 (fun k hk => hc k (by rw [numi]; rw [num1] at hk; exact hk)) hv)
 ·obtain ⟨out, kx, hkx, hout, hf⟩ := hS ps
  have nn : K.of nxi ≠ K.of 256 := by intro e; have := congrArg K.num e; rw [ci (by omega), b0l] at this; omega
  have hfree : ρ (K.of nxi) = none := hc _ (by rw [numi, ci (by omega)]; omega)
  have lb : b < w.heap.size := (zI.1 hb).1
  have at0 : ac (K.of 256) (ae (.mk 256 (loS nxi) :: .mk nxi loB :: Lr)) = co (loS nxi) := by rw [bv, if_pos rfl]
  have at1 : ac (K.of nxi) (ae (.mk 256 (loS nxi) :: .mk nxi loB :: Lr)) = co loB := by rw [bv, if_neg nn, bv, if_pos rfl]
  have atx : ∀ k, k ≠ K.of 256 → k ≠ K.of nxi → ac k (ae (.mk 256 (loS nxi) :: .mk nxi loB :: Lr)) = ac k (ae Lr) := fun k h h' => by rw [bv, if_neg h, bv, if_neg h']
  have nL : ac (K.of nxi) (ae Lr) = .none := a4v (by omega) hL (.inr (by rw [ci (by omega)]; omega)) (by omega)
  have back : ∀ k, k ≠ K.of nxi → ac k (ae (.mk 256 (loS nxi) :: .mk nxi loB :: Lr)) ≠ .none → ac k (ae (.mk 256 (.gob (.lh kd g)) :: Lr)) ≠ .none := by
   intro k h' h
   by_cases e : k = K.of 256
   ·subst e; exact hk0
   ·rw [atx k e h'] at h; rw [side k e]; exact h
  have nolh : ∀ k, bu (ac k (ae (.mk 256 (loS nxi) :: .mk nxi loB :: Lr))) = none := by
   intro k
   by_cases e : k = K.of 256
   ·subst e; rw [at0]; exact h2
   ·by_cases e' : k = K.of nxi
    ·subst e'; rw [at1]; exact h3
    ·rw [atx k e e']
     by_cases e2 : ac k (ae Lr) = .none
     ·rw [e2]; rfl
     ·exact (aff (by omega) hL e2).2
  have hle := a7j ρ (K.of nxi) b n hfree
  have nob : ∀ k, ac k (ae (.mk 256 (.gob (.lh kd g)) :: Lr)) ≠ .none → ρ k ≠ some b := by
   intro k hl e
   by_cases e0 : k = K.of 256
   ·subst e0; rw [hc0] at e; injection e with e; exact hbc e.symm
   ·refine q.sep k hl e0 b e ?_
    rw [hF]; exact .inr rfl
  have blk0 : ∀ k, k ≠ K.of nxi → (upd ρ (K.of nxi) b n) k = ρ k := fun k h => ic ρ h b n
  have hw1 : WRel (upd ρ (K.of nxi) b n) (ax (.mk 256 (loS nxi) :: .mk nxi loB :: Lr) (nxi + 1)) w := by
   obtain ⟨o1, o2⟩ := ho (upd ρ (K.of nxi) b n) (K.of nxi) (cq ρ _ b n) (sj ρ _ b n)
   refine ⟨fun k l x y e => ?_, fun k x => ?_, fun k c arr' t' fz' x e1 e2 => ?_, fun k kd' g' x => ?_⟩
   ·have x : ac k (ae (.mk 256 (loS nxi) :: .mk nxi loB :: Lr)) ≠ .none := x
    have y : ac l (ae (.mk 256 (loS nxi) :: .mk nxi loB :: Lr)) ≠ .none := y
    by_cases ek : k = K.of nxi
    ·by_cases el : l = K.of nxi
     ·rw [ek, el]
     ·rw [ek, cq, blk0 l el] at e
      exact absurd e.symm (nob l (back l el y))
    ·by_cases el : l = K.of nxi
     ·rw [el, cq, blk0 k ek] at e
      exact absurd e (nob k (back k ek x))
     ·rw [blk0 k ek, blk0 l el] at e
      exact hw.inj k l (back k ek x) (back l el y) e
   ·have x : ac k (ae (.mk 256 (loS nxi) :: .mk nxi loB :: Lr)) ≠ .none := x
    show ∃ c, _ ∧ ORel _ (ac k (ae _)) _
    by_cases e : k = K.of 256
    ·subst e
     rw [at0]
     refine ⟨c0, by rw [blk0 _ (Ne.symm nn)]; exact hc0, ?_⟩
     have := o1
     rw [ci (by omega)] at this
     exact this
    ·by_cases ek : k = K.of nxi
     ·subst ek
      rw [at1]
      exact ⟨b, cq ρ _ b n, o2⟩
     ·obtain ⟨c, e1, e2⟩ := hw.dom k (back k ek x)
      have e2 : ORel ρ (ac k (ae _)) _ := e2
      rw [side k e] at e2
      rw [atx k e ek]
      exact ⟨c, by rw [blk0 k ek]; exact e1, e2.mono hle⟩
   ·have x : ac k (ae (.mk 256 (loS nxi) :: .mk nxi loB :: Lr)) ≠ .none := x
    by_cases ek : k = K.of nxi
    ·subst ek
     rw [cq] at e1
     injection e1 with e1
     subst e1
     rw [hb] at e2
     injection e2 with e2
     injection e2 with e2 e3 e4
     subst e2
     rw [sj]; exact hn
    ·rw [blk0 k ek] at e1
     rw [bbs ρ ek]
     exact hw.len k c arr' t' fz' (back k ek x) e1 e2
   ·have := nolh k
    have x : bu (ac k (ae (.mk 256 (loS nxi) :: .mk nxi loB :: Lr))) = some (kd', g') := x
    rw [this] at x; cases x
  have num1 : (ax (.mk 256 (loS nxi) :: .mk nxi loB :: Lr) (nxi + 1)).nx.num = nxi + 1 := ci (by omega)
  have hO : Opened nxi (nxi + 1) ρ (ax (.mk 256 (.gob (.lh kd g)) :: Lr) nxi) (upd ρ (K.of nxi) b n) (ax (.mk 256 (loS nxi) :: .mk nxi loB :: Lr) (nxi + 1)) := by
   refine ⟨num1, by omega, hle, fun k => ?_, ?_, fun k => rfl, nolh⟩
   ·by_cases ek : k = K.of nxi
    ·subst ek; right; rw [ci (by omega)]; omega
    ·exact .inl (blk0 k ek)
   ·rintro c ⟨k, k1, k2, k3⟩
    have k1 : ac k (ae (.mk 256 (loS nxi) :: .mk nxi loB :: Lr)) ≠ .none := k1
    have k2 : (ac k (ae (.mk 256 (loS nxi) :: .mk nxi loB :: Lr))).isRo = false := k2
    have own0 : Own ρ (ax (.mk 256 (.gob (.lh kd g)) :: Lr) nxi) c ↔ Own ρ (ax (.mk 256 (.gob (.lh kd g)) :: Lr) nxi) c := Iff.rfl
    have ro0 : (ac (K.of 256) (ax (.mk 256 (.gob (.lh kd g)) :: Lr) nxi).h).isRo = false := by
     show (ac _ (ae _)).isRo = false
     rw [bv, if_pos rfl]; rfl
    rcases k3 with k3 | ⟨k3, _⟩
    ·by_cases ek : k = K.of nxi
     ·subst ek
      rw [cq] at k3
      injection k3 with k3
      subst k3
      refine ⟨K.of 256, hk0, ro0, .inr ⟨by rw [hg0]; simp, ?_⟩⟩
      rw [hF]; exact .inr rfl
     ·rw [blk0 k ek] at k3
      by_cases e : k = K.of 256
      ·subst e; exact ⟨K.of 256, hk0, ro0, .inl k3⟩
      ·refine ⟨k, back k ek k1, ?_, .inl k3⟩
       show (ac _ (ae _)).isRo = false
       rw [atx k e ek] at k2; rw [side k e]; exact k2
    ·exact absurd (nolh k) k3
  refine fin hkx hout hO (hf (upd ρ (K.of nxi) b n) args w (fun g hgl => ?_) hw1 (fun k hkk => ?_) (VRels.mono hle _ _ hv))
  ·have : K.of g ≠ K.of nxi := by intro e; have := congrArg K.num e; rw [ci (by omega), ci (by omega)] at this; omega
   rw [blk0 _ this]; exact hg g hgl
  ·rw [num1] at hkk
   have : k ≠ K.of nxi := by rintro rfl; rw [ci (by omega)] at hkk; omega
   rw [blk0 k this]
   exact hc k (by rw [numi]; omega)
end
end Go.Ev
