import Derived.Test.YtdeddgiacdjjdaaGreatDoorEvFr
set_option maxRecDepth 100000
set_option linter.all false
namespace Go.Ev
noncomputable section
def aai (l n : Nat) : Bool := Nat.blt n (Nat.pow 256 l)
def ayy (k : IntKind) (e : SE) (A : List SA) : AV := match e with
 | .c n => .int k n
 | e => .sym k e A
def ayx (g : GE) (A : List SA) : AV := match g with
 | .lit l n => bc (aai l n) (.str l n) (.gv (.str (.lit l n) A))
 | .nil => .str 0 0
 | g => .gv (.str g A)
def azw (op : Nat) (k : IntKind) (a b : SE) : SE := match op, a, b with
 | 0, .c m, .c n => .c (nq k (Int.add m n))
 | 1, .c m, .c n => .c (nq k (Int.sub m n))
 | 2, .c m, .c n => .c (nq k (Int.mul m n))
 | 6, a, b => gk a b
 | 7, .c m, .c n => .c (Int.mul m n)
 | op, a, b => .bin op k a b
def hdE : GE → SE
 | .one e => e
 | .s i => .v i
 | g => .rd g (.c 0)
mutual
def SE.sub (θ : Nat → GE) : SE → SE
 | .v i => hdE (θ i)
 | .c n => .c n
 | .bin op k a b => azw op k (a.sub θ) (b.sub θ)
 | .len g => dy (g.sub θ)
 | .rd g e => .rd (g.sub θ) (e.sub θ)
 | .dr g e => .dr (g.sub θ) (e.sub θ)
 | .dw g e => .dw (g.sub θ) (e.sub θ)
 | .eqg g h => .eqg (g.sub θ) (h.sub θ)
 | .mhas m g => .mhas (m.sub θ) (g.sub θ)
 | .mget m g => .mget (m.sub θ) (g.sub θ)
 | .app f l => .app f (l.sub θ)
def GE.sub (θ : Nat → GE) : GE → GE
 | .s i => θ i
 | .nil => .nil
 | .one e => .one (e.sub θ)
 | .cat a b => k7 (a.sub θ) (b.sub θ)
 | .lit l n => .lit l n
 | .cut g a b => .cut (g.sub θ) (a.sub θ) (b.sub θ)
 | .enc e => .enc (e.sub θ)
 | .app f l => .app f (l.sub θ)
def AL.sub (θ : Nat → GE) : AL → AL
 | .nil => .nil
 | .i e l => .i (e.sub θ) (l.sub θ)
 | .g x l => .g (x.sub θ) (l.sub θ)
end
def a8s (κ : K → K) : Fn → Fn
 | .yield m => .yield (κ (K.of m)).num
 | g => g
def ajv (κ : K → K) (θ : Nat → GE) : List GP → List GP
 | [] => []
 | .mk e t k :: l => .mk (e.sub θ) t (κ k) :: ajv κ θ l
def db (κ : K → K) (θ : Nat → GE) (A : List SA) : Nat → AV → AV
 | 0, _ => .top
 | n + 1, x => match x with
   | .bool b => .bool b
   | .int k n => .int k n
   | .str l n => .str l n
   | .nilPtr => .nilPtr
   | .nilSlice => .nilSlice
   | .nilMap => .nilMap
   | .nilFunc => .nilFunc
   | .nilIface => .nilIface
   | .esl => .esl
   | .ptr b o => .ptr (κ b) o
   | .slice b o l c e => .slice (κ b) o l c e
   | .map b => .map (κ b)
   | .func g x y => .func (a8s κ g) (shL (db κ θ A n) x) (shL (db κ θ A n) y)
   | .iface t v => .iface t (db κ θ A n v)
   | .agg l => .agg (shL (db κ θ A n) l)
   | .tuple l => .tuple (shL (db κ θ A n) l)
   | .sym k e _ => ayy k (e.sub θ) A
   | .gv (.str g _) => ayx (g.sub θ) A
   | .gv (.sl b es n _) => .gv (.sl (κ b) es (n.sub θ) A)
   | .gv (.ptr b es i o _) => .gv (.ptr (κ b) es (i.sub θ) o A)
   | .gv (.sr b o n _) => .gv (.sr (κ b) (o.sub θ) (n.sub θ) A)
   | .gv (.pr b o i _) => .gv (.pr (κ b) (o.sub θ) (i.sub θ) A)
   | _ => .top
def acx (θ : Nat → GE) (A : List SA) : GO → GO
 | .gh t ks n g => .gh t ks (n.sub θ) (g.sub θ)
 | .junk t => .junk t
 | .gmap m => .gmap (m.sub θ)
 | .lh k g => .lh k (g.sub θ)
 | .rh o n g => .rh (o.sub θ) (n.sub θ) (g.sub θ)
 | .rb o n g => .rb (o.sub θ) (n.sub θ) (g.sub θ)
 | .iter g p _ => .iter (g.sub θ) (p.sub θ) A
def sj (κ : K → K) (θ : Nat → GE) (A : List SA) : LO → LO
 | .cells t e fl fh l => .cells t e fl fh (shL (db κ θ A 8) l)
 | .map es => .map (shP (db κ θ A 8) es)
 | .win kb l => .win kb l
 | .gob o => .gob (acx θ A o)
 | .gp ro t n g ps => .gp ro t (n.sub θ) (g.sub θ) (ajv κ θ ps)
 | .loop fn nt id l ps kd => .loop fn nt id (shL (db κ θ A 8) l) ps (κ kd)
def noA : List SA → Bool
 | [] => true
 | _ => false
def vj (f : AV → Bool) : List AV → Bool
 | [] => true
 | x :: l => bc (f x) (vj f l) false
def nl : Nat → AV → Bool
 | 0, _ => false
 | n + 1, x => match x with
   | .bool _ | .int _ _ | .str _ _ | .nilPtr | .nilSlice | .nilMap | .nilFunc | .nilIface | .esl | .ptr _ _ | .slice _ _ _ _ _ | .map _ | .top => true
   | .func _ x y => bc (vj (nl n) x) (vj (nl n) y) false
   | .iface _ v => nl n v
   | .agg l => vj (nl n) l
   | .tuple l => vj (nl n) l
   | .sym _ _ A => noA A
   | .gv (.str _ A) => noA A
   | .gv (.sl _ _ _ A) => noA A
   | .gv (.ptr _ _ _ _ A) => noA A
   | .gv (.sr _ _ _ A) => noA A
   | .gv (.pr _ _ _ A) => noA A
   | _ => false
def a3q : List (AV × AV) → Bool
 | [] => true
 | x :: l => bc (nl 8 x.1) (bc (nl 8 x.2) (a3q l) false) false
def xn : LO → Bool
 | .cells _ _ _ _ l => vj (nl 8) l
 | .map es => a3q es
 | .win _ _ => false
 | .gob (.iter _ _ A) => noA A
 | .gob _ => true
 | .gp .. => true
 | .loop _ nt _ l _ _ => vj (nl 8) l && Nat.beq (bl l) nt && Nat.ble nt 512
end
theorem ae1 [Gv] {ρ : Env} {k : IntKind} {e : SE} {A : List SA} (hA : SAll Gv.σ A) {x : Value} : VRel ρ (ayy k e A) x ↔ x = .int k (e.eval Gv.σ) := by
 unfold ayy
 split
 ·simp only [VRel, SE.eval]
 ·simp only [VRel]; exact ⟨fun h => h.2, fun h => ⟨hA, h⟩⟩
theorem ae0 [Gv] {ρ : Env} {g : GE} {A : List SA} (hA : SAll Gv.σ A) {x : Value} : VRel ρ (ayx g A) x ↔ x = .string (ai (g.eval Gv.σ)) ∧ c7 (g.eval Gv.σ) := by
 unfold ayx
 split
 ·rename_i l n
  rw [aa]
  split
  ·rename_i h
   have h : n < 256 ^ l := by simpa [aai] using h
   simp only [VRel, GE.eval]
   rw [kf]
   exact ⟨fun q => ⟨q.2, jv _⟩, fun q => ⟨h, q.1⟩⟩
  ·simp only [VRel]; exact ⟨fun h => h.2, fun h => ⟨hA, h⟩⟩
 ·simp only [VRel, GE.eval]
  constructor
  ·rintro ⟨_, rfl⟩; exact ⟨rfl, fun x h => by cases h⟩
  ·rintro ⟨rfl, _⟩; exact ⟨by simp, rfl⟩
 ·simp only [VRel]; exact ⟨fun h => h.2, fun h => ⟨hA, h⟩⟩
theorem amo (σ : Nat → List Int) (op : Nat) (k : IntKind) (a b : SE) : (azw op k a b).eval σ = qz op k (a.eval σ) (b.eval σ) := by
 haveI : Gv := ⟨σ⟩
 unfold azw
 split
 ·simp only [SE.eval, qz]; exact ec _ _
 ·simp only [SE.eval, qz]; exact ec _ _
 ·simp only [SE.eval, qz]; exact ec _ _
 ·rw [ct]; rfl
 ·simp only [SE.eval, qz]; rfl
 ·simp only [SE.eval]
theorem aso (σ : Nat → List Int) (g : GE) : (hdE g).eval σ = (g.eval σ).headD 0 := by
 unfold hdE
 split
 ·simp only [GE.eval, List.headD_cons]
 ·simp only [SE.eval, GE.eval]
 ·simp only [SE.eval, Int.toNat_zero]
  cases g.eval σ <;> rfl
section
variable (σ : Nat → List Int) (θ : Nat → GE)
mutual
theorem SE.sub_eval : ∀ e : SE, (e.sub θ).eval σ = e.eval (fun i => (θ i).eval σ)
 | .v i => by haveI : Gv := ⟨σ⟩; simp only [SE.sub, aso, SE.eval]
 | .c n => by haveI : Gv := ⟨σ⟩; simp only [SE.sub, SE.eval]
 | .bin op k a b => by haveI : Gv := ⟨σ⟩; simp only [SE.sub, amo, SE.eval, SE.sub_eval a, SE.sub_eval b]
 | .len g => by haveI : Gv := ⟨σ⟩; simp only [SE.sub, bg, SE.eval, GE.sub_eval g]
 | .rd g e => by haveI : Gv := ⟨σ⟩; simp only [SE.sub, SE.eval, GE.sub_eval g, SE.sub_eval e]
 | .dr g e => by haveI : Gv := ⟨σ⟩; simp only [SE.sub, SE.eval, GE.sub_eval g, SE.sub_eval e]
 | .dw g e => by haveI : Gv := ⟨σ⟩; simp only [SE.sub, SE.eval, GE.sub_eval g, SE.sub_eval e]
 | .eqg g h => by haveI : Gv := ⟨σ⟩; simp only [SE.sub, SE.eval, GE.sub_eval g, GE.sub_eval h]
 | .mhas g h => by haveI : Gv := ⟨σ⟩; simp only [SE.sub, SE.eval, GE.sub_eval g, GE.sub_eval h]
 | .mget g h => by haveI : Gv := ⟨σ⟩; simp only [SE.sub, SE.eval, GE.sub_eval g, GE.sub_eval h]
 | .app f l => by haveI : Gv := ⟨σ⟩; simp only [SE.sub, SE.eval, AL.sub_eval l]
theorem GE.sub_eval : ∀ g : GE, (g.sub θ).eval σ = g.eval (fun i => (θ i).eval σ)
 | .s i => by haveI : Gv := ⟨σ⟩; simp only [GE.sub, GE.eval]
 | .nil => by haveI : Gv := ⟨σ⟩; simp only [GE.sub, GE.eval]
 | .one e => by haveI : Gv := ⟨σ⟩; simp only [GE.sub, GE.eval, SE.sub_eval e]
 | .cat a b => by haveI : Gv := ⟨σ⟩; simp only [GE.sub, co, GE.eval, GE.sub_eval a, GE.sub_eval b]
 | .lit l n => by haveI : Gv := ⟨σ⟩; simp only [GE.sub, GE.eval]
 | .cut g a b => by haveI : Gv := ⟨σ⟩; simp only [GE.sub, GE.eval, GE.sub_eval g, SE.sub_eval a, SE.sub_eval b]
 | .enc e => by haveI : Gv := ⟨σ⟩; simp only [GE.sub, GE.eval, SE.sub_eval e]
 | .app f l => by haveI : Gv := ⟨σ⟩; simp only [GE.sub, GE.eval, AL.sub_eval l]
theorem AL.sub_eval : ∀ l : AL, (l.sub θ).eval σ = l.eval (fun i => (θ i).eval σ)
 | .nil => by haveI : Gv := ⟨σ⟩; simp only [AL.sub, AL.eval]
 | .i e l => by haveI : Gv := ⟨σ⟩; simp only [AL.sub, AL.eval, SE.sub_eval e, AL.sub_eval l]
 | .g x l => by haveI : Gv := ⟨σ⟩; simp only [AL.sub, AL.eval, GE.sub_eval x, AL.sub_eval l]
end
end
@[reducible] noncomputable def GvS (σ : Nat → List Int) (θ : Nat → GE) : Gv := ⟨fun i => (θ i).eval σ⟩
section
variable {σ : Nat → List Int} {θ : Nat → GE} {κ : K → K} {ρ ρt : Env} {A : List SA}
theorem a3m {ρ ρ' : Env} {b b' : K} {o cap cap' : Nat} {ex : Option Nat} (h : ρ'.sz b' = ρ.sz b) (e : SlOk ρ b o cap cap' ex) : SlOk ρ' b' o cap cap' ex := by
 cases ex with
 | none => exact e
 | some es => simp only [SlOk] at e ⊢; rw [h]; exact e
def gd (ρ ρ' : Env) (k k' : K) : Prop := ∀ c, ρ k = some c → ρ' k' = some c ∧ ρ'.sz k' = ρ.sz k
theorem ii {A : List SA} (h : noA A = true) : A = [] := by cases A <;> first | rfl | cases h
theorem aim {f : AV → AV} {p : AV → Bool} (hf : ∀ x v, p x = true → @VRel ⟨σ⟩ ρ (f x) v → @VRel (GvS σ θ) ρt x v) : ∀ {l : List AV} {vs : List Value}, vj p l = true → @VRels ⟨σ⟩ ρ (shL f l) vs → @VRels (GvS σ θ) ρt l vs
 | [], _, _, h => by simp only [shL, VRels] at h ⊢; exact h
 | x :: l, _, hp, h => by
   haveI : Gv := ⟨σ⟩
   simp only [vj] at hp
   obtain ⟨p1, p2⟩ := bc_and.1 hp
   simp only [shL, VRels] at h ⊢
   obtain ⟨v, vs, e, h1, h2⟩ := h
   exact ⟨v, vs, e, hf _ _ p1 h1, aim hf p2 h2⟩
theorem fwd (hA : SAll σ A) (hk : ∀ k, gd ρ ρt (κ k) k) : ∀ n x v, nl n x = true → @VRel ⟨σ⟩ ρ (db κ θ A n x) v → @VRel (GvS σ θ) ρt x v
 | 0, _, _, h, _ => by cases h
 | n + 1, x, v, ht, h => by
   have ih := fwd hA hk n
   have bca : ∀ {x y : Bool}, bc x y false = true ↔ x = true ∧ y = true := @bc_and ⟨σ⟩
   cases x <;> simp only [nl, zF] at ht <;> simp only [db] at h <;> first
    | (simp only [VRel] at h ⊢; exact h)
    | (simp only [VRel]; done)
    | skip
   ·simp only [VRel] at h ⊢; obtain ⟨c, h1, h2⟩ := h; exact ⟨c, (hk _ _ h1).1, h2⟩
   ·simp only [VRel] at h ⊢; obtain ⟨c, cap', h1, h2, h3, h4⟩ := h; exact ⟨c, cap', (hk _ _ h1).1, h2, a3m (hk _ _ h1).2 h3, h4⟩
   ·simp only [VRel] at h ⊢; obtain ⟨c, h1, h2⟩ := h; exact ⟨c, (hk _ _ h1).1, h2⟩
   ·rename_i g x y
    obtain ⟨t1, t2⟩ := bca.1 ht
    simp only [VRel] at h ⊢
    obtain ⟨f', x', y', h1, h0, h2, h3⟩ := h
    refine ⟨f', x', y', h1, ?_, aim (fun x v a b => ih x v a b) t1 h2, aim (fun x v a b => ih x v a b) t2 h3⟩
    cases g <;> first | exact h0 | skip
    rename_i m
    obtain ⟨c, q1, q2⟩ := h0
    rw [@K.of_of ⟨σ⟩] at q1
    exact ⟨c, (hk _ _ q1).1, q2⟩
   ·simp only [VRel] at h ⊢; obtain ⟨v', h1, h2⟩ := h; exact ⟨v', h1, ih _ _ ht h2⟩
   ·simp only [VRel] at h ⊢; obtain ⟨ys, h1, h2⟩ := h; exact ⟨ys, h1, aim (fun x v a b => ih x v a b) ht h2⟩
   ·simp only [VRel] at h ⊢; obtain ⟨ys, h1, h2⟩ := h; exact ⟨ys, h1, aim (fun x v a b => ih x v a b) ht h2⟩
   ·rename_i k e A'
    have := ii ht; subst this
    have h := (@ae1 ⟨σ⟩ ρ k _ A hA v).1 h
    simp only [VRel]
    exact ⟨SAll.nil, h.trans (congrArg _ (SE.sub_eval σ θ e))⟩
   ·rename_i g
    cases g with
    | str g A' =>
      have := ii ht; subst this
      have h := (@ae0 ⟨σ⟩ ρ _ A hA v).1 h
      simp only [VRel]
      refine ⟨SAll.nil, ?_, ?_⟩
      ·rw [h.1]; exact congrArg _ (congrArg _ (GE.sub_eval σ θ g))
      ·have := h.2; rw [GE.sub_eval] at this; exact this
    | sl b es n A' =>
      have := ii ht; subst this
      simp only [VRel] at h ⊢
      obtain ⟨_, c, cap', h1, h2, h3, h4, h5⟩ := h
      rw [SE.sub_eval] at h2 h3 h5
      exact ⟨SAll.nil, c, cap', (hk _ _ h1).1, h2, h3, by rw [(hk _ _ h1).2]; exact h4, h5⟩
    | ptr b es i o A' =>
      have := ii ht; subst this
      simp only [VRel] at h ⊢
      obtain ⟨_, c, h1, h2, h3⟩ := h
      rw [SE.sub_eval] at h2 h3
      exact ⟨SAll.nil, c, (hk _ _ h1).1, h2, h3⟩
    | sr b o n A' =>
      have := ii ht; subst this
      simp only [VRel] at h ⊢
      obtain ⟨_, c, cap', h1, h2, h3, h5⟩ := h
      rw [SE.sub_eval] at h2 h3
      rw [SE.sub_eval, SE.sub_eval] at h5
      exact ⟨SAll.nil, c, cap', (hk _ _ h1).1, h2, h3, h5⟩
    | pr b o i A' =>
      have := ii ht; subst this
      simp only [VRel] at h ⊢
      obtain ⟨_, c, h1, h2, h3⟩ := h
      rw [SE.sub_eval] at h2
      rw [SE.sub_eval, SE.sub_eval] at h3
      exact ⟨SAll.nil, c, (hk _ _ h1).1, h2, h3⟩
theorem ahx {f : AV → AV} (hf : ∀ x v, @VRel (GvS σ θ) ρt x v → @VRel ⟨σ⟩ ρ (f x) v) : ∀ {l : List AV} {vs : List Value}, @VRels (GvS σ θ) ρt l vs → @VRels ⟨σ⟩ ρ (shL f l) vs
 | [], _, h => by simp only [shL, VRels] at h ⊢; exact h
 | x :: l, _, h => by
   simp only [shL, VRels] at h ⊢
   obtain ⟨v, vs, e, h1, h2⟩ := h
   exact ⟨v, vs, e, hf _ _ h1, ahx hf h2⟩
theorem bwd (hA : SAll σ A) (hk : ∀ k, gd ρt ρ k (κ k)) : ∀ n x v, @VRel (GvS σ θ) ρt x v → @VRel ⟨σ⟩ ρ (db κ θ A n x) v
 | 0, _, _, _ => by simp only [db, VRel]
 | n + 1, x, v, h => by
   have ih := bwd hA hk n
   cases x <;> simp only [db] <;> first
    | (simp only [VRel] at h ⊢; exact h)
    | (simp only [VRel]; done)
    | skip
   ·simp only [VRel] at h ⊢; obtain ⟨c, h1, h2⟩ := h; exact ⟨c, (hk _ _ h1).1, h2⟩
   ·simp only [VRel] at h ⊢; obtain ⟨c, cap', h1, h2, h3, h4⟩ := h; exact ⟨c, cap', (hk _ _ h1).1, h2, a3m (hk _ _ h1).2 h3, h4⟩
   ·simp only [VRel] at h ⊢; obtain ⟨c, h1, h2⟩ := h; exact ⟨c, (hk _ _ h1).1, h2⟩
   ·rename_i g x y
    simp only [VRel] at h ⊢
    obtain ⟨f', x', y', h1, h0, h2, h3⟩ := h
    refine ⟨f', x', y', h1, ?_, ahx ih h2, ahx ih h3⟩
    cases g <;> first | exact h0 | skip
    rename_i m
    obtain ⟨c, q1, q2⟩ := h0
    refine ⟨c, ?_, q2⟩
    rw [@K.of_of ⟨σ⟩]
    exact (hk _ _ q1).1
   ·simp only [VRel] at h ⊢; obtain ⟨v', h1, h2⟩ := h; exact ⟨v', h1, ih _ _ h2⟩
   ·simp only [VRel] at h ⊢; obtain ⟨ys, h1, h2⟩ := h; exact ⟨ys, h1, ahx ih h2⟩
   ·simp only [VRel] at h ⊢; obtain ⟨ys, h1, h2⟩ := h; exact ⟨ys, h1, ahx ih h2⟩
   ·rename_i k e A'
    simp only [VRel] at h
    refine (@ae1 ⟨σ⟩ ρ k _ A hA v).2 ?_
    rw [h.2]
    exact congrArg _ (SE.sub_eval σ θ e).symm
   ·rename_i g
    cases g with
    | str g A' =>
      simp only [VRel] at h
      refine (@ae0 ⟨σ⟩ ρ _ A hA v).2 ⟨?_, ?_⟩
      ·rw [h.2.1]; exact congrArg _ (congrArg _ (GE.sub_eval σ θ g).symm)
      ·rw [GE.sub_eval]; exact h.2.2
    | sl b es n A' =>
      simp only [VRel] at h ⊢
      obtain ⟨_, c, cap', h1, h2, h3, h4, h5⟩ := h
      refine ⟨hA, c, cap', (hk _ _ h1).1, ?_, ?_, by rw [(hk _ _ h1).2]; exact h4, ?_⟩
      ·rw [SE.sub_eval]; exact h2
      ·rw [SE.sub_eval]; exact h3
      ·rw [SE.sub_eval]; exact h5
    | ptr b es i o A' =>
      simp only [VRel] at h ⊢
      obtain ⟨_, c, h1, h2, h3⟩ := h
      refine ⟨hA, c, (hk _ _ h1).1, ?_, ?_⟩
      ·rw [SE.sub_eval]; exact h2
      ·rw [SE.sub_eval]; exact h3
    | sr b o n A' =>
      simp only [VRel] at h ⊢
      obtain ⟨_, c, cap', h1, h2, h3, h5⟩ := h
      refine ⟨hA, c, cap', (hk _ _ h1).1, ?_, ?_, ?_⟩
      ·rw [SE.sub_eval]; exact h2
      ·rw [SE.sub_eval]; exact h3
      ·rw [SE.sub_eval, SE.sub_eval]; exact h5
    | pr b o i A' =>
      simp only [VRel] at h ⊢
      obtain ⟨_, c, h1, h2, h3⟩ := h
      refine ⟨hA, c, (hk _ _ h1).1, ?_, ?_⟩
      ·rw [SE.sub_eval]; exact h2
      ·rw [SE.sub_eval, SE.sub_eval]; exact h3
end
end Go.Ev
set_option maxRecDepth 100000
set_option linter.all false
namespace Go.Ev
section
variable {σ : Nat → List Int} {θ : Nat → GE} {κ : K → K} {ρ ρt : Env} {A : List SA}
theorem jx (f : AV → AV) : ∀ l, (shL f l).length = l.length
 | [] => rfl
 | _ :: l => by simp [shL, jx f l]
theorem adc (f : AV → AV) : ∀ (l : List AV) (i : Nat) (h : i < l.length), (shL f l)[i]'(by rw [jx]; exact h) = f l[i]
 | [], _, h => by simp at h
 | _ :: l, 0, _ => rfl
 | _ :: l, i + 1, h => by simpa [shL] using adc f l i (by simpa using h)
theorem ake {p : AV → Bool} : ∀ {l : List AV}, vj p l = true → ∀ (i : Nat) (h : i < l.length), p l[i] = true
 | [], _, i, h => by simp at h
 | x :: l, hp, i, h => by
   simp only [vj] at hp
   obtain ⟨p1, p2⟩ := (@bc_and ⟨fun _ => []⟩ _ _).1 hp
   cases i with
   | zero => exact p1
   | succ i => exact ake p2 i (by simpa using h)
theorem a7t (hA : SAll σ A) (hk : ∀ k, gd ρ ρt (κ k) k) : ∀ {es : List (AV × AV)} {l : List MapEntry}, a3q es = true → @ERel ⟨σ⟩ ρ (shP (db κ θ A 8) es) l → @ERel (GvS σ θ) ρt es l
 | [], _, _, h => h
 | e :: es, _, hp, ⟨m, ms, h1, h2, h3, h4⟩ => by
   simp only [a3q] at hp
   obtain ⟨p1, hp⟩ := (@bc_and ⟨σ⟩ _ _).1 hp
   obtain ⟨p2, p3⟩ := (@bc_and ⟨σ⟩ _ _).1 hp
   exact ⟨m, ms, h1, fwd hA hk 8 _ _ p1 h2, fwd hA hk 8 _ _ p2 h3, a7t hA hk p3 h4⟩
theorem a6g (hA : SAll σ A) (hk : ∀ k, gd ρt ρ k (κ k)) : ∀ {es : List (AV × AV)} {l : List MapEntry}, @ERel (GvS σ θ) ρt es l → @ERel ⟨σ⟩ ρ (shP (db κ θ A 8) es) l
 | [], _, h => h
 | e :: es, _, ⟨m, ms, h1, h2, h3, h4⟩ => ⟨m, ms, h1, bwd hA hk 8 _ _ h2, bwd hA hk 8 _ _ h3, a6g hA hk h4⟩
theorem afe {o : GO} {x : Option Obj} (hA : SAll σ A) (h : xn (.gob o) = true) : @GORel ⟨σ⟩ (acx θ A o) x ↔ @GORel (GvS σ θ) o x := by
 cases o with
 | gh t ks n g =>
   simp only [acx, GORel]
   rw [SE.sub_eval]
   generalize hX : GE.eval σ (GE.sub θ g) = X
   rw [GE.sub_eval] at hX
   subst hX
   exact Iff.rfl
 | junk t => exact Iff.rfl
 | lh k g => exact Iff.rfl
 | rh o n g =>
   simp only [acx, GORel]
   rw [SE.sub_eval, SE.sub_eval]
   generalize hX : GE.eval σ (GE.sub θ g) = X
   rw [GE.sub_eval] at hX
   subst hX
   exact Iff.rfl
 | rb o n g =>
   simp only [acx, GORel]
   rw [SE.sub_eval, SE.sub_eval]
   generalize hX : GE.eval σ (GE.sub θ g) = X
   rw [GE.sub_eval] at hX
   subst hX
   exact Iff.rfl
 | gmap m =>
   simp only [acx, GORel]
   rw [GE.sub_eval]
   constructor
   ·rintro ⟨e, c, h1, h2⟩
    refine ⟨e, c, h1, ?_⟩
    revert h2
    generalize vb (GE.eval (fun i => GE.eval σ (θ i)) m) = l
    generalize e.toList = ms
    intro h2
    induction l generalizing ms with
    | nil => exact h2
    | cons x l ih => obtain ⟨a, b, q1, q2, q3, q4, q5⟩ := h2; exact ⟨a, b, q1, q2, q3, q4, ih _ q5⟩
   ·rintro ⟨e, c, h1, h2⟩
    refine ⟨e, c, h1, ?_⟩
    revert h2
    generalize vb (GE.eval (fun i => GE.eval σ (θ i)) m) = l
    generalize e.toList = ms
    intro h2
    induction l generalizing ms with
    | nil => exact h2
    | cons x l ih => obtain ⟨a, b, q1, q2, q3, q4, q5⟩ := h2; exact ⟨a, b, q1, q2, q3, q4, ih _ q5⟩
 | iter g p A' =>
   have h : noA A' = true := h
   have := ii h; subst this
   simp only [acx, GORel]
   rw [SE.sub_eval, GE.sub_eval]
   exact ⟨fun h => ⟨SAll.nil, h.2⟩, fun h => ⟨hA, h.2⟩⟩
theorem a7s (hk : ∀ k, gd ρ ρt (κ k) k) {arr : Array Value} : ∀ {ps : List GP}, @GPs ⟨σ⟩ ρ arr (ajv κ θ ps) → @GPs (GvS σ θ) ρt arr ps := by
 intro ps h e t k hm
 have : GP.mk (e.sub θ) t (κ k) ∈ ajv κ θ ps := by
  induction ps with
  | nil => cases hm
  | cons p ps ih =>
    obtain ⟨e', t', k'⟩ := p
    rcases List.mem_cons.1 hm with q | q
    ·injection q with q1 q2 q3; subst q1 q2 q3; exact List.mem_cons_self ..
    ·exact zA _ (ih (fun x y z w => h x y z (zA _ w)) q)
 obtain ⟨h0, c, h1, h2⟩ := h _ _ _ this
 have e1 : (e.sub θ).eval σ = e.eval (fun i => (θ i).eval σ) := SE.sub_eval σ θ e
 have h0 : 0 ≤ (e.sub θ).eval σ := h0
 have h2 : arr[((e.sub θ).eval σ).toNat]? = _ := h2
 rw [e1] at h0 h2
 exact ⟨h0, c, (hk _ _ h1).1, h2⟩
theorem a3z (hk : ∀ k, gd ρt ρ k (κ k)) {arr : Array Value} : ∀ {ps : List GP}, @GPs (GvS σ θ) ρt arr ps → @GPs ⟨σ⟩ ρ arr (ajv κ θ ps)
 | [], _, _, _, _, hm => by cases hm
 | .mk e' t' k' :: ps, h, e, t, k, hm => by
   rcases List.mem_cons.1 hm with q | q
   ·injection q with q1 q2 q3
    subst q1 q2 q3
    obtain ⟨h0, c, h1, h2⟩ := h _ _ _ (List.mem_cons_self ..)
    have e1 : (e'.sub θ).eval σ = e'.eval (fun i => (θ i).eval σ) := SE.sub_eval σ θ e'
    refine ⟨?_, c, (hk _ _ h1).1, ?_⟩
    ·show 0 ≤ (e'.sub θ).eval σ
     rw [e1]; exact h0
    ·show arr[((e'.sub θ).eval σ).toNat]? = _
     rw [e1]; exact h2
   ·exact a3z hk (fun x y z w => h x y z (zA _ w)) e t k q
theorem mp [Gv] {ρ : Env} {l : List AV} {tmps : Array Value} (hn : l.length ≤ 512) (hs : tmps.size = l.length) : (∀ t, VRel ρ (ev t (na l 0 lr)) (tmps.getD t undef)) ↔ VRels ρ l tmps.toList := by
 constructor
 ·intro h
  refine VRels.of_get _ _ (by simpa using hs) fun i hi => ⟨tmps[i]'(by omega), by simp [hs, hi], ?_⟩
  have := h i
  rw [yd l 0 lr i (by omega) (by omega), dif_pos ⟨Nat.zero_le _, by omega⟩] at this
  simpa [Array.getD, hs, hi] using this
 ·intro h
  have e := yh (nt := tmps.size) h (by omega) (by omega)
  have z : tmps ++ Array.replicate (tmps.size - l.length) undef = tmps := by rw [hs, Nat.sub_self]; simp
  intro t
  have q := e t
  first
  | exact q
  | (rw [z] at q; exact q)
  | (simp only [hs, Nat.sub_self, Array.replicate_zero, Array.append_empty] at q; exact q)
theorem a91 (hA : SAll σ A) (hk : ∀ k, gd ρ ρt (κ k) k) {o : LO} (ht : xn o = true) {x : Option Obj} (h : @ORel ⟨σ⟩ ρ (dh (sj κ θ A o)) x) : @ORel (GvS σ θ) ρt (dh o) x := by
 cases o with
 | win => cases ht
 | gp ro t n g ps =>
   obtain ⟨arr, fz, h1, h2, h3, h4, h5, h6, h7⟩ := h
   have h3 : 0 ≤ (n.sub θ).eval σ := h3
   have h4 : (((g.sub θ).eval σ).length : Int) ≤ (n.sub θ).eval σ := h4
   have h5 : ((n.sub θ).eval σ).toNat ≤ arr.size := h5
   have h6 : ∀ (i : Nat) (h : i < ((g.sub θ).eval σ).length), arr[i]? = some (azb ((g.sub θ).eval σ)[i]) := h6
   rw [SE.sub_eval] at h3 h4 h5
   generalize hX : GE.eval σ (GE.sub θ g) = X at h4 h6
   rw [GE.sub_eval] at hX
   subst hX
   exact ⟨arr, fz, h1, h2, h3, h4, h5, h6, a7s hk h7⟩
 | loop fn nt id l ps kd =>
   have ht : (vj (nl 8) l && Nat.beq (bl l) nt && Nat.ble nt 512) = true := ht
   simp only [zU, ao] at ht
   obtain ⟨⟨t1, t2⟩, t3⟩ := ht
   have t2 := zW t2
   have t3 := zE t3
   obtain ⟨tmps, c, h1, h2, h3, h4, h5, h6⟩ := h
   have hl := jx (db κ θ A 8) l
   have := (@mp ⟨σ⟩ ρ (shL (db κ θ A 8) l) tmps (by omega) (by omega)).1 h5
   exact ⟨tmps, c, h1, (hk kd c h2).1, h3, h4, (@mp (GvS σ θ) ρt l tmps (by omega) (by omega)).2 (aim (fun x v a b => fwd hA hk 8 x v a b) t1 this), h6⟩
 | gob o => exact (afe hA ht).1 h
 | map es =>
   obtain ⟨a, b, h1, h2⟩ := h
   exact ⟨a, b, h1, a7t hA hk ht h2⟩
 | cells t e fl fh l =>
   haveI : Gv := ⟨σ⟩
   obtain ⟨arr, fz, h1, h2, h3, h4, h5, h6⟩ := h
   have hl : bl (shL (db κ θ A 8) l) = l.length := by rw [ao, jx]
   have hl0 : bl l = l.length := ao l
   rw [hl] at h2 h3
   rw [cx, hl] at h4
   refine ⟨arr, fz, h1, by rw [hl0]; exact h2, fun q => by rw [hl0]; exact h3 q, by rw [cx, hl0]; exact h4, h5, ?_⟩
   intro i hi
   rw [hl0] at hi
   obtain ⟨v, q1, q2⟩ := h6 i (by rw [hl]; exact hi)
   refine ⟨v, q1, ?_⟩
   have hl' := jx (db κ θ A 8) l
   rw [hl, gc (shL (db κ θ A 8) l) 0 _ i (by omega) (by omega), dif_pos ⟨Nat.zero_le _, by omega⟩] at q2
   rw [hl0, gc l 0 _ i (by omega) (by omega), dif_pos ⟨Nat.zero_le _, by omega⟩]
   have := adc (db κ θ A 8) l i hi
   simp only [Nat.sub_zero] at q2 ⊢
   rw [this] at q2
   exact fwd hA hk 8 _ _ (ake ht i hi) q2
theorem a6f (hA : SAll σ A) (hk : ∀ k, gd ρt ρ k (κ k)) {o : LO} (ht : xn o = true) {x : Option Obj} (h : @ORel (GvS σ θ) ρt (dh o) x) : @ORel ⟨σ⟩ ρ (dh (sj κ θ A o)) x := by
 cases o with
 | win => cases ht
 | gp ro t n g ps =>
   obtain ⟨arr, fz, h1, h2, h3, h4, h5, h6, h7⟩ := h
   refine ⟨arr, fz, h1, h2, ?_, ?_, ?_, ?_, a3z hk h7⟩
   ·show 0 ≤ (n.sub θ).eval σ
    rw [SE.sub_eval]; exact h3
   ·show (((g.sub θ).eval σ).length : Int) ≤ (n.sub θ).eval σ
    rw [SE.sub_eval, GE.sub_eval]; exact h4
   ·show ((n.sub θ).eval σ).toNat ≤ arr.size
    rw [SE.sub_eval]; exact h5
   ·show ∀ (i : Nat) (h : i < ((g.sub θ).eval σ).length), arr[i]? = some (azb ((g.sub θ).eval σ)[i])
    generalize hX : GE.eval σ (GE.sub θ g) = X
    rw [GE.sub_eval] at hX
    subst hX
    exact h6
 | loop fn nt id l ps kd =>
   have ht : (vj (nl 8) l && Nat.beq (bl l) nt && Nat.ble nt 512) = true := ht
   simp only [zU, ao] at ht
   obtain ⟨⟨t1, t2⟩, t3⟩ := ht
   have t2 := zW t2
   have t3 := zE t3
   obtain ⟨tmps, c, h1, h2, h3, h4, h5, h6⟩ := h
   have hl := jx (db κ θ A 8) l
   have := (@mp (GvS σ θ) ρt l tmps (by omega) (by omega)).1 h5
   exact ⟨tmps, c, h1, (hk kd c h2).1, h3, h4, (@mp ⟨σ⟩ ρ (shL (db κ θ A 8) l) tmps (by omega) (by omega)).2 (ahx (fun x v a => bwd hA hk 8 x v a) this), h6⟩
 | gob o => exact (afe hA ht).2 h
 | map es =>
   obtain ⟨a, b, h1, h2⟩ := h
   exact ⟨a, b, h1, a6g hA hk h2⟩
 | cells t e fl fh l =>
   haveI : Gv := ⟨σ⟩
   obtain ⟨arr, fz, h1, h2, h3, h4, h5, h6⟩ := h
   have hl : bl (shL (db κ θ A 8) l) = l.length := by rw [ao, jx]
   have hl0 : bl l = l.length := ao l
   rw [hl0] at h2 h3
   rw [cx, hl0] at h4
   refine ⟨arr, fz, h1, by rw [hl]; exact h2, fun q => by rw [hl]; exact h3 q, by rw [cx, hl]; exact h4, h5, ?_⟩
   intro i hi
   rw [hl] at hi
   obtain ⟨v, q1, q2⟩ := h6 i (by rw [hl0]; exact hi)
   refine ⟨v, q1, ?_⟩
   have hl' := jx (db κ θ A 8) l
   rw [hl0, gc l 0 _ i (by omega) (by omega), dif_pos ⟨Nat.zero_le _, by omega⟩] at q2
   rw [hl, gc (shL (db κ θ A 8) l) 0 _ i (by omega) (by omega), dif_pos ⟨Nat.zero_le _, by omega⟩]
   have := adc (db κ θ A 8) l i hi
   simp only [Nat.sub_zero] at q2 ⊢
   rw [this]
   exact bwd hA hk 8 _ _ q2
theorem w7 {G G' : Gv} {ρ ρ' : Env} : ∀ {l : List AV} {xs : List Value}, aik l = true → @VRels G ρ l xs → @VRels G' ρ' l xs
 | [], _, _, h => by simp only [VRels] at h ⊢; exact h
 | v :: l, _, hf, h => by
   simp only [aik] at hf
   obtain ⟨f1, f2⟩ := (@bc_and G _ _).1 hf
   simp only [VRels] at h ⊢
   obtain ⟨x, xs, e, h1, h2⟩ := h
   refine ⟨x, xs, e, ?_, w7 f2 h2⟩
   cases v <;> first | (cases f1; done) | (simp only [VRel] at h1 ⊢; exact h1)
theorem an1 {G G' : Gv} {ρ ρ' : Env} {g : Nat} {cs : List AV} {x : Option Obj} (hm : LE.mk g cs ∈ laidL) (h : @ORel G ρ (.ro (Nat.succ g) (bl cs) (kh cs 0 (gx (bl cs)))) x) :
  @ORel G' ρ' (.ro (Nat.succ g) (bl cs) (kh cs 0 (gx (bl cs)))) x := by
 obtain ⟨arr, t', fz, h1, h2, h3, h4, h5⟩ := h
 obtain ⟨f1, f2, f3⟩ := @gg G _ (@fo G) g cs hm
 have hv := h5 g cs rfl hm ρ
 have hv' : ∀ ρ, @VRels G' ρ cs arr.toList := fun ρ => w7 f2 hv
 letI := G'
 refine ⟨arr, t', fz, h1, h2, h3, fun i hi => ?_, fun g' cs' e hm' ρ'' => ?_⟩
 ·obtain ⟨v, s1, s2⟩ := ot (hv' ρ') f3 i (by rw [ao] at hi; exact hi)
  rw [ao]
  exact ⟨v, by simpa using s1, s2⟩
 ·exact w7 (@gg G _ (@fo G) g' cs' hm').2.1 (h5 g' cs' e hm' ρ)
end
noncomputable section
def ez : List (Nat × Nat) → Nat → Option Nat
 | [], _ => none
 | p :: l, k => bc (Nat.beq p.1 k) (some p.2) (ez l k)
def farK : K := K.of 65535
def d8 (L : List (Nat × Nat)) (nxi nx : Nat) (k : K) : K := bc (Nat.ble k.num 255) k (bc (Nat.blt k.num nxi) (match ez L k.num with
 | some m => K.of m
 | none => farK) (bc (Nat.ble (Nat.add (Nat.sub k.num nxi) nx) 65534) (K.of (Nat.add (Nat.sub k.num nxi) nx)) farK))
def bj (κ : K → K) (θ : Nat → GE) (A : List SA) : List HO → List HO
 | [] => []
 | .mk k o :: l => .mk (κ (K.of k)).num (sj κ θ A o) :: bj κ θ A l
def mm : List (Nat × Nat) → Bool
 | [] => true
 | p :: l => bc (aay (fun q => xv (Nat.beq q p.2)) (l.map (·.2))) (mm l) false
def yw (nx : Nat) : List (Nat × Nat) → Bool
 | [] => true
 | p :: l => bc (Nat.ble 256 p.2 && Nat.blt p.2 nx) (yw nx l) false
def ae8 (L : List (Nat × Nat)) (nxi : Nat) : List HO → Bool
 | [] => true
 | .mk k o :: l => bc (Nat.ble 256 k && Nat.blt k nxi && xn o && (ez L k).isSome) (ae8 L nxi l) false
def ae2 (L : List (Nat × Nat)) (nxi nxo : Nat) : List HO → Bool
 | [] => true
 | .mk k o :: l => bc (Nat.ble 256 k && Nat.blt k nxo && xn o && ((ez L k).isSome && Nat.blt k nxi || Nat.ble nxi k)) (ae2 L nxi nxo l) false
end
end Go.Ev
set_option maxRecDepth 100000
set_option linter.all false
namespace Go.Ev
section
variable {σ : Nat → List Int} {θ : Nat → GE} {A0 : List SA} {KL : List (Nat × Nat)} {nxi nxo nx : Nat} {Li Lo : List HO} {ρ : Env} {w : World}
theorem bcT {x y : Bool} : bc x y false = true ↔ x = true ∧ y = true := @bc_and ⟨fun _ => []⟩ x y
theorem cr {x : Nat} (h : x < 65536) : (K.of x).num = x := @K.of_num' ⟨fun _ => []⟩ x h
theorem u6 : ∀ {L : List (Nat × Nat)}, yw nx L = true → ∀ k m, ez L k = some m → 256 ≤ m ∧ m < nx
 | [], _, _, _, h => by cases h
 | p :: l, h, k, m, hf => by
   simp only [yw] at h
   obtain ⟨h1, h2⟩ := bcT.1 h
   simp only [zU] at h1
   simp only [ez, aa] at hf
   split at hf
   ·cases hf; exact ⟨zE h1.1, zE h1.2⟩
   ·exact u6 h2 k m hf
theorem aii : ∀ {L : List (Nat × Nat)} {k m : Nat}, ez L k = some m → m ∈ L.map (·.2)
 | [], _, _, h => by cases h
 | p :: l, k, m, hf => by
   simp only [ez, aa] at hf
   split at hf
   ·cases hf; simp
   ·exact zA _ (aii hf)
theorem ahs {p : Nat → Bool} : ∀ {l : List Nat}, aay p l = true → ∀ x ∈ l, p x = true
 | [], _, _, h => by cases h
 | y :: l, h, x, hx => by
   simp only [aay] at h
   obtain ⟨h1, h2⟩ := bcT.1 h
   rcases List.mem_cons.1 hx with rfl | e
   ·exact h1
   ·exact ahs h2 x e
theorem ab2 : ∀ {L : List (Nat × Nat)}, mm L = true → ∀ k k' m, ez L k = some m → ez L k' = some m → k = k'
 | [], _, _, _, _, h, _ => by cases h
 | p :: l, h, k, k', m, h1, h2 => by
   simp only [mm] at h
   obtain ⟨d1, d2⟩ := bcT.1 h
   have ne : ∀ q, ez l q = some p.2 → False := by
    intro q hq
    have := ahs d1 _ (aii hq)
    have : xv (Nat.beq p.2 p.2) = true := this
    rw [Nat.beq_refl] at this
    cases this
   simp only [ez, aa] at h1 h2
   split at h1
   ·rename_i e1
    cases h1
    split at h2
    ·rename_i e2; rw [← zW e1, ← zW e2]
    ·exact (ne _ h2).elim
   ·split at h2
    ·cases h2; exact (ne _ h1).elim
    ·exact ab2 d2 k k' m h1 h2
theorem aan : ∀ {L : List HO}, ae8 KL nxi L = true → ∀ k o, HO.mk k o ∈ L → 256 ≤ k ∧ k < nxi ∧ xn o = true ∧ ∃ m, ez KL k = some m
 | [], _, _, _, h => by cases h
 | .mk k o :: l, h, k', o', hm => by
   simp only [ae8] at h
   obtain ⟨h1, h2⟩ := bcT.1 h
   simp only [zU] at h1
   rcases List.mem_cons.1 hm with e | e
   ·injection e with e1 e2; subst e1 e2
    exact ⟨zE h1.1.1.1, zE h1.1.1.2, h1.1.2, Option.isSome_iff_exists.1 h1.2⟩
   ·exact aan h2 k' o' e
theorem ag0 : ∀ {L : List HO}, ae2 KL nxi nxo L = true → ∀ k o, HO.mk k o ∈ L → 256 ≤ k ∧ k < nxo ∧ xn o = true ∧ ((∃ m, ez KL k = some m) ∧ k < nxi ∨ nxi ≤ k)
 | [], _, _, _, h => by cases h
 | .mk k o :: l, h, k', o', hm => by
   simp only [ae2] at h
   obtain ⟨h1, h2⟩ := bcT.1 h
   simp only [zU, Bool.or_eq_true] at h1
   rcases List.mem_cons.1 hm with e | e
   ·injection e with e1 e2; subst e1 e2
    exact ⟨zE h1.1.1.1, zE h1.1.1.2, h1.1.2, h1.2.imp (fun q => ⟨Option.isSome_iff_exists.1 q.1, zE q.2⟩) zE⟩
   ·exact ag0 h2 k' o' e
theorem apv {k : K} (h : k.num ≤ 255) : d8 KL nxi nx k = k := by
 unfold d8; rw [aa, if_pos (Nat.ble_eq_true_of_le h)]
theorem aev {k : K} {m : Nat} (h : 256 ≤ k.num) (h1 : k.num < nxi) (hf : ez KL k.num = some m) : d8 KL nxi nx k = K.of m := by
 unfold d8
 rw [aa, if_neg (fun q => by have := zE q; omega), aa, if_pos (by simpa using h1), hf]
theorem tr {k : K} (h : 256 ≤ k.num) (h1 : nxi ≤ k.num) : d8 KL nxi nx k = if k.num - nxi + nx ≤ 65534 then K.of (k.num - nxi + nx) else farK := by
 unfold d8
 rw [aa, if_neg (fun q => by have := zE q; omega), aa, if_neg (fun q => by have : k.num < nxi := zE q; omega), aa]
 by_cases e : k.num - nxi + nx ≤ 65534
 ·rw [if_pos (show Nat.ble (Nat.add (Nat.sub k.num nxi) nx) 65534 = true from Nat.ble_eq_true_of_le e), if_pos e]; rfl
 ·rw [if_neg (show ¬ Nat.ble (Nat.add (Nat.sub k.num nxi) nx) 65534 = true from fun q => e (zE q)), if_neg e]
theorem a01 : farK.num = 65535 := cr (by omega)
structure Maps (κ : K → K) (L : List HO) : Prop where
 lo : ∀ a o, HO.mk a o ∈ L → 256 ≤ a ∧ a < 65536 ∧ xn o = true
 hi : ∀ a o, HO.mk a o ∈ L → 256 ≤ (κ (K.of a)).num
 inj : ∀ a o b p, HO.mk a o ∈ L → HO.mk b p ∈ L → κ (K.of a) = κ (K.of b) → a = b
theorem Maps.tail {κ : K → K} {x : HO} {L : List HO} (h : Maps κ (x :: L)) : Maps κ L :=
 ⟨fun a o m => h.lo a o (zA _ m), fun a o m => h.hi a o (zA _ m), fun a o b p m n => h.inj a o b p (zA _ m) (zA _ n)⟩
theorem ag4 (k : K) : K.of k.num = k := @K.of_of ⟨fun _ => []⟩ k
theorem al8 {κ : K → K} : ∀ {L : List HO}, Maps κ L → ∀ a o, HO.mk a o ∈ L → ∃ p, HO.mk a p ∈ L ∧ ac (K.of a) (ae L) = dh p ∧ ac (κ (K.of a)) (ae (bj κ θ A0 L)) = dh (sj κ θ A0 p)
 | [], _, _, _, h => by cases h
 | .mk b q :: L, hM, a, o, hm => by
   simp only [ae, bj]
   by_cases e : a = b
   ·subst e
    exact ⟨q, by simp, by rw [af], by rw [ag4, af]⟩
   ·have hm' : HO.mk a o ∈ L := by
     rcases List.mem_cons.1 hm with x | x
     ·injection x with x1 x2; exact absurd x1 e
     ·exact x
    obtain ⟨p, p1, p2, p3⟩ := al8 hM.tail a o hm'
    refine ⟨p, zA _ p1, ?_, ?_⟩
    ·rw [ak ?_, p2]
     intro x
     have := congrArg K.num x
     rw [cr (hM.lo a o hm).2.1, cr (hM.lo b q (by simp)).2.1] at this
     exact e this
    ·rw [ag4, ak ?_, p3]
     intro x
     exact e (hM.inj a o b q hm (by simp) x)
theorem agy {κ : K → K} {k : K} (hk : k.num ≤ 255) : ∀ {L : List HO}, Maps κ L → ac k (ae (bj κ θ A0 L)) = ac k (kc laidL) ∧ ac k (ae L) = ac k (kc laidL)
 | [], _ => ⟨rfl, rfl⟩
 | .mk b q :: L, hM => by
   obtain ⟨h1, h2⟩ := agy hk hM.tail
   simp only [ae, bj]
   constructor
   ·rw [ag4, ak ?_, h1]
    intro x
    have := hM.hi b q (by simp)
    rw [← x] at this; omega
   ·rw [ak ?_, h2]
    intro x
    have := (hM.lo b q (by simp))
    rw [x, cr this.2.1] at hk; omega
theorem ajf {κ : K → K} {k : K} : ∀ {L : List HO}, Maps κ L → ac k (ae (bj κ θ A0 L)) ≠ .none → (∃ a o, HO.mk a o ∈ L ∧ k = κ (K.of a)) ∨ ac k (kc laidL) ≠ .none
 | [], _, h => .inr h
 | .mk b q :: L, hM, h => by
   simp only [ae, bj, ag4] at h
   by_cases e : k = κ (K.of b)
   ·exact .inl ⟨b, q, by simp, e⟩
   ·rw [ak e] at h
    rcases ajf hM.tail h with ⟨a, o, m, x⟩ | x
    ·exact .inl ⟨a, o, zA _ m, x⟩
    ·exact .inr x
theorem mh {k : K} (h : ac k (kc laidL) ≠ .none) : ∃ g cs, LE.mk g cs ∈ laidL ∧ g ≤ 255 ∧ k = K.of g ∧ k.num ≤ 255 ∧ ac k (kc laidL) = .ro (Nat.succ g) (bl cs) (kh cs 0 (gx (bl cs))) := by
 letI : Gv := ⟨fun _ => []⟩
 obtain ⟨g, cs, h1, h2, h3, _⟩ := mf k laidL h
 have := (gg _ fo g cs h1).1
 exact ⟨g, cs, h1, this, h2, by rw [h2, cr (by omega)]; exact this, h3⟩
theorem xw {k : K} {L : List HO} (h : ac k (ae L) ≠ .none) : (∃ a o, HO.mk a o ∈ L ∧ k = K.of a) ∨ ac k (kc laidL) ≠ .none := by
 letI : Gv := ⟨fun _ => []⟩
 induction L with
 | nil => exact .inr h
 | cons x L ih =>
   obtain ⟨b, q⟩ := x
   simp only [ae] at h
   by_cases e : k = K.of b
   ·exact .inl ⟨b, q, by simp, e⟩
   ·rw [ak e] at h
    rcases ih h with ⟨a, o, m, x⟩ | x
    ·exact .inl ⟨a, o, zA _ m, x⟩
    ·exact .inr x
theorem sk (κ : K → K) (θ : Nat → GE) (A : List SA) (o : LO) : (dh (sj κ θ A o)).isRo = (dh o).isRo := by
 cases o with
 | gob g => cases g <;> rfl
 | _ => rfl
theorem acp (o : LO) : dh o ≠ .none := @ajn ⟨fun _ => []⟩ o
set_option maxHeartbeats 1000000 in
theorem ai4 (k : K) : ay (ac k (kc laidL)) = none := by
 by_cases e : ac k (kc laidL) = .none
 ·rw [e]; rfl
 ·obtain ⟨g, cs, _, _, _, _, h⟩ := mh e
  rw [h]; rfl
theorem acy {κ : K → K} {θ : Nat → GE} {A : List SA} {p : LO} (h : ay (dh p) ≠ none) : ∃ kd g, ay (dh p) = some (kd, g) ∧ ay (dh (sj κ θ A p)) = some (kd, g.sub θ) := by
 cases p with
 | gob o => cases o <;> first | exact absurd rfl h | exact ⟨_, _, rfl, rfl⟩
 | _ => exact absurd rfl h
theorem acz {κ : K → K} {θ : Nat → GE} {A : List SA} {p : LO} (h : ay (dh p) = none) : ay (dh (sj κ θ A p)) = none := by
 cases p with
 | gob o => cases o <;> first | rfl | cases h
 | _ => rfl
theorem azm (hA : SAll σ A0) (b1 : 256 ≤ nxi) (b2 : nxi ≤ nxo) (b3 : nxo ≤ 65535) (b4 : 256 ≤ nx) (b5 : nx + (nxo - nxi) ≤ 65535)
  (hd : mm KL = true) (hr : yw nx KL = true) (hold : ae8 KL nxi Li = true) (hnew : ae2 KL nxi nxo Lo = true)
  (hg : @GRel ρ) (hw : @WRel ⟨σ⟩ ρ (bf (bj (d8 KL nxi nx) θ A0 Li) nx) w) (hc : @Clean ρ (bf (bj (d8 KL nxi nx) θ A0 Li) nx)) :
  ∃ ρt, @GRel ρt ∧ @WRel (GvS σ θ) ρt (bf Li nxi) w ∧ @Clean ρt (bf Li nxi) ∧ (∀ k, gd ρ ρt (d8 KL nxi nx k) k) ∧
   ∀ ρ1 w1, @Adv (GvS σ θ) ρt (bf Li nxi) w ρ1 (bf Lo nxo) w1 → ∃ ρ', @Adv ⟨σ⟩ ρ (bf (bj (d8 KL nxi nx) θ A0 Li) nx) w ρ' (bf (bj (d8 KL nxi nx) θ A0 Lo) (nx + (nxo - nxi))) w1 ∧ ∀ k, gd ρ1 ρ' k (d8 KL nxi nx k) := by
 obtain ⟨wi, wd, wl, wg⟩ := hw
 generalize hκ : d8 KL nxi nx = κ at *
 have n1 : (bf (bj κ θ A0 Li) nx).nx.num = nx := cr (by omega)
 have n2 : (bf Li nxi).nx.num = nxi := cr (by omega)
 have n3 : (bf Lo nxo).nx.num = nxo := cr (by omega)
 have n4 : (bf (bj κ θ A0 Lo) (nx + (nxo - nxi))).nx.num = nx + (nxo - nxi) := cr (by omega)
 have hc' : ∀ k : K, nx ≤ k.num → ρ k = none := fun k hk => hc k (by rw [n1]; exact hk)
 have kold : ∀ a o, HO.mk a o ∈ Li → ∃ m, κ (K.of a) = K.of m ∧ 256 ≤ m ∧ m < nx ∧ ez KL a = some m ∧ a < nxi := by
  intro a o hm
  obtain ⟨a1, a2, a3, m, hf⟩ := aan hold a o hm
  obtain ⟨m1, m2⟩ := u6 hr a m hf
  have e : (K.of a).num = a := cr (by omega)
  exact ⟨m, by rw [← hκ]; exact aev (by omega) (by omega) (by rw [e]; exact hf), m1, m2, hf, a2⟩
 have mapsI : Maps κ Li := by
  refine ⟨fun a o hm => ?_, fun a o hm => ?_, fun a o b p h1 h2 e => ?_⟩
  ·obtain ⟨a1, a2, a3, _⟩ := aan hold a o hm; exact ⟨a1, by omega, a3⟩
  ·obtain ⟨m, e, m1, m2, _⟩ := kold a o hm; rw [e, cr (by omega)]; exact m1
  ·obtain ⟨m, e1, m1, m2, f1, _⟩ := kold a o h1
   obtain ⟨m', e2, m1', m2', f2, _⟩ := kold b p h2
   rw [e1, e2] at e
   have := congrArg K.num e
   rw [cr (by omega), cr (by omega)] at this
   subst this
   exact ab2 hd a b m f1 f2
 have knew : ∀ a o, HO.mk a o ∈ Lo → a < nxo ∧ 256 ≤ a ∧ ((∃ m, κ (K.of a) = K.of m ∧ 256 ≤ m ∧ m < nx ∧ ez KL a = some m ∧ a < nxi) ∨ (nxi ≤ a ∧ κ (K.of a) = K.of (a - nxi + nx))) := by
  intro a o hm
  obtain ⟨a1, a2, a3, h⟩ := ag0 hnew a o hm
  have e : (K.of a).num = a := cr (by omega)
  refine ⟨a2, a1, ?_⟩
  rcases h with ⟨⟨m, hf⟩, hlt⟩ | h
  ·obtain ⟨m1, m2⟩ := u6 hr a m hf
   exact .inl ⟨m, by rw [← hκ]; exact aev (by omega) (by omega) (by rw [e]; exact hf), m1, m2, hf, hlt⟩
  ·refine .inr ⟨h, ?_⟩
   rw [← hκ, tr (by omega) (by omega), e, if_pos (by omega)]
 have mapsO : Maps κ Lo := by
  refine ⟨fun a o hm => ?_, fun a o hm => ?_, fun a o b p h1 h2 e => ?_⟩
  ·obtain ⟨a1, a2, a3, _⟩ := ag0 hnew a o hm; exact ⟨a1, by omega, a3⟩
  ·obtain ⟨q1, q2, ⟨m, e, m1, m2, _⟩ | ⟨q, e⟩⟩ := knew a o hm
   ·rw [e, cr (by omega)]; exact m1
   ·rw [e, cr (by omega)]; omega
  ·obtain ⟨q1, q2, hq⟩ := knew a o h1
   obtain ⟨r1, r2, hr'⟩ := knew b p h2
   rcases hq with ⟨m, e1, m1, m2, f1, _⟩ | ⟨qa, e1⟩ <;> rcases hr' with ⟨m', e2, m1', m2', f2, _⟩ | ⟨qb, e2⟩ <;> rw [e1, e2] at e <;> have := congrArg K.num e <;> rw [cr (by omega), cr (by omega)] at this
   ·subst this; exact ab2 hd a b m f1 f2
   ·omega
   ·omega
   ·omega
 have klow : ∀ k : K, k.num ≤ 255 → κ k = k := fun k hk => by rw [← hκ]; exact apv hk
 let ρt : Env := { blk := fun k => if k.num < nxi then ρ (κ k) else none, sz := fun k => ρ.sz (κ k), ft := fun k => ρ.ft (κ k) }
 have et : ∀ k : K, ρt k = if k.num < nxi then ρ (κ k) else none := fun _ => rfl
 have st : ∀ k : K, ρt.sz k = ρ.sz (κ k) := fun _ => rfl
 have kto : ∀ k, gd ρ ρt (κ k) k := by
  intro k c hk
  rw [et, st]
  by_cases h : k.num < nxi
  ·rw [if_pos h]; exact ⟨hk, rfl⟩
  ·exfalso
   rw [← hκ, tr (by omega) (by omega)] at hk
   split at hk
   ·rw [hc' _ (by rw [cr (by omega)]; omega)] at hk; cases hk
   ·rw [hc' _ (by rw [a01]; omega)] at hk; cases hk
 have inPlace : ∀ k, ac k (ae Li) ≠ .none → k.num < nxi ∧ ac (κ k) (ae (bj κ θ A0 Li)) ≠ .none ∧
   ((∃ a p, HO.mk a p ∈ Li ∧ k = K.of a ∧ ac k (ae Li) = dh p ∧ ac (κ k) (ae (bj κ θ A0 Li)) = dh (sj κ θ A0 p)) ∨
    (k.num ≤ 255 ∧ κ k = k ∧ ac k (ae Li) = ac k (kc laidL) ∧ ac k (ae (bj κ θ A0 Li)) = ac k (kc laidL) ∧ ac k (kc laidL) ≠ .none)) := by
  intro k hk
  by_cases hl : ∃ a o, HO.mk a o ∈ Li ∧ k = K.of a
  ·obtain ⟨a, o, hm, rfl⟩ := hl
   obtain ⟨p, p1, p2, p3⟩ := al8 (θ := θ) (A0 := A0) mapsI a o hm
   obtain ⟨a1, a2, _⟩ := aan hold a o hm
   exact ⟨by rw [cr (by omega)]; exact a2, by rw [p3]; exact acp _, .inl ⟨a, p, p1, rfl, p2, p3⟩⟩
  ·rcases xw hk with h | h
   ·exact absurd h hl
   ·obtain ⟨g, cs, _, g1, g2, g3, _⟩ := mh h
    obtain ⟨m1, m2⟩ := agy (θ := θ) (A0 := A0) (κ := κ) g3 mapsI
    have e := klow k g3
    exact ⟨by omega, by rw [e, m1]; exact h, .inr ⟨g3, e, m2, m1, h⟩⟩
 have kinj : ∀ k l, ac k (ae Li) ≠ .none → ac l (ae Li) ≠ .none → κ k = κ l → k = l := by
  intro k l hk hl e
  obtain ⟨_, _, hk'⟩ := inPlace k hk
  obtain ⟨_, _, hl'⟩ := inPlace l hl
  rcases hk' with ⟨a, p, pm, rfl, _⟩ | ⟨k1, k2, _⟩ <;> rcases hl' with ⟨b, q, qm, rfl, _⟩ | ⟨l1, l2, _⟩
  ·rw [mapsI.inj a p b q pm qm e]
  ·have := mapsI.hi a p pm; rw [e, l2] at this; omega
  ·have := mapsI.hi b q qm; rw [← e, k2] at this; omega
  ·rw [← k2, ← l2, e]
 have ghI : ∀ k, ay (ac k (ae Li)) ≠ none → ∃ kd g, ay (ac k (ae Li)) = some (kd, g) ∧ ay (ac (κ k) (ae (bj κ θ A0 Li))) = some (kd, g.sub θ) := by
  intro k hk
  obtain ⟨k1, k2, k3⟩ := inPlace k (be hk)
  rcases k3 with ⟨a, p, pm, rfl, p1, p2⟩ | ⟨q1, q2, q3, q4, q5⟩
  ·rw [p1] at hk ⊢
   rw [p2]
   exact acy hk
  ·rw [q3, ai4] at hk; exact absurd rfl hk
 have hwt : @WRel (GvS σ θ) ρt (bf Li nxi) w := by
  refine @WRel.mk (GvS σ θ) _ _ _ ?_ ?_ ?_ ?_
  ·intro k l hk hl e
   obtain ⟨k1, k2, _⟩ := inPlace k hk
   obtain ⟨l1, l2, _⟩ := inPlace l hl
   rw [et, et, if_pos k1, if_pos l1] at e
   have roI : ∀ k, ac k (ae Li) ≠ .none → (ac (κ k) (ae (bj κ θ A0 Li))).isRo = (ac k (ae Li)).isRo := by
    intro k hk
    obtain ⟨_, _, k3⟩ := inPlace k hk
    rcases k3 with ⟨a, p, pm, rfl, p1, p2⟩ | ⟨q1, q2, q3, q4, q5⟩
    ·rw [p1, p2, sk κ θ A0]
    ·rw [q2, q3, q4]
   rcases wi _ _ k2 l2 e with q | ⟨q, r⟩
   ·exact .inl (kinj k l hk hl q)
   ·exact .inr ⟨(roI k hk).symm.trans q, (roI l hl).symm.trans r⟩
  ·intro k hk
   obtain ⟨k1, k2, k3⟩ := inPlace k hk
   obtain ⟨c, hcc, ho⟩ := wd _ k2
   refine ⟨c, by rw [et, if_pos k1]; exact hcc, ?_⟩
   rcases k3 with ⟨a, p, pm, rfl, p1, p2⟩ | ⟨q1, q2, q3, q4, q5⟩
   ·have ho : @ORel ⟨σ⟩ ρ (ac (κ (K.of a)) (ae (bj κ θ A0 Li))) (w.heap[c]?) := ho
    rw [p2] at ho
    show @ORel (GvS σ θ) ρt (ac (K.of a) (ae Li)) _
    rw [p1]
    exact a91 hA kto (mapsI.lo a p pm).2.2 ho
   ·have ho : @ORel ⟨σ⟩ ρ (ac (κ k) (ae (bj κ θ A0 Li))) (w.heap[c]?) := ho
    rw [q2, q4] at ho
    show @ORel (GvS σ θ) ρt (ac k (ae Li)) _
    obtain ⟨g, cs, g0, g1, g2, g3, g4⟩ := mh q5
    rw [q3]
    rw [g4] at ho ⊢
    exact an1 g0 ho
  ·intro k c arr t fz hk hcc hx
   obtain ⟨k1, k2, _⟩ := inPlace k hk
   rw [et, if_pos k1] at hcc
   rw [st]
   exact wl (κ k) c arr t fz k2 hcc hx
  ·intro k kd g hk
   have hk : ay (ac k (ae Li)) = some (kd, g) := hk
   obtain ⟨kd', g', e1, e2⟩ := ghI k (n9 hk)
   rw [hk] at e1
   injection e1 with e1
   injection e1 with e1 e1'
   subst e1 e1'
   obtain ⟨qroot, qrel, qlt, qsep, qdis⟩ := wg (κ k) kd (g.sub θ) e2
   obtain ⟨k1, k2, _⟩ := inPlace k (be (n9 hk))
   refine @GhAt.mk (GvS σ θ) _ _ _ _ _ _ ?_ ?_ qlt ?_ ?_
   ·intro c hcc; rw [et, if_pos k1] at hcc; exact qroot c hcc
   ·intro c hcc
    rw [et, if_pos k1] at hcc
    have := qrel c hcc
    rw [GE.sub_eval] at this
    exact this
   ·intro l hl hlk c hcc
    obtain ⟨l1, l2, _⟩ := inPlace l hl
    rw [et, if_pos l1] at hcc
    exact qsep (κ l) l2 (fun e => hlk (kinj l k hl (be (n9 hk)) e)) c hcc
   ·intro l hl hlk
    have hl : ay (ac l (ae Li)) ≠ none := hl
    obtain ⟨_, _, _, e3⟩ := ghI l hl
    exact qdis (κ l) (by show ay (ac (κ l) (ae (bj κ θ A0 Li))) ≠ none; rw [e3]; simp) (fun e => hlk (kinj l k (be hl) (be (n9 hk)) e))
 have ownTo : ∀ c, @Own ρt (bf Li nxi) c → @Own ρ (bf (bj κ θ A0 Li) nx) c := by
  rintro c ⟨k, hk, hro, hcc⟩
  obtain ⟨k1, k2, k3⟩ := inPlace k hk
  refine ⟨κ k, k2, ?_, ?_⟩
  rotate_left
  ·rcases hcc with hcc | ⟨h1, h2⟩
   ·rw [et, if_pos k1] at hcc; exact .inl hcc
   ·obtain ⟨_, _, _, e3⟩ := ghI k h1
    exact .inr ⟨by show ay (ac (κ k) (ae (bj κ θ A0 Li))) ≠ none; rw [e3]; simp, h2⟩
  rcases k3 with ⟨a, p, pm, rfl, p1, p2⟩ | ⟨q1, q2, q3, q4, q5⟩
  ·show (ac (κ (K.of a)) (ae (bj κ θ A0 Li))).isRo = false
   rw [p2, sk, ← p1]; exact hro
  ·have hro : (ac k (ae Li)).isRo = false := hro
   show (ac (κ k) (ae (bj κ θ A0 Li))).isRo = false
   rw [q2, q4, ← q3]; exact hro
 refine ⟨ρt, ?_, hwt, ?_, kto, ?_⟩
 ·intro g hgg
  rw [et, cr (by omega), if_pos (by omega), klow _ (by rw [cr (by omega)]; exact hgg)]
  exact hg g hgg
 ·intro k hk
  rw [n2] at hk
  rw [et, if_neg (by omega)]
 ·intro ρ1 w1 hA1
  obtain ⟨⟨ri, rd, rl, rg⟩, ale, arng, anx, asize, aown, akeep, aframe, afts, aos, atape, aout⟩ := hA1
  have rng1 : ∀ k : K, k.num < nxi → ρ1 k = ρt k := fun k hk => by
   rcases arng k with e | e
   ·exact e
   ·rw [n2] at e; omega
  have rng2 : ∀ (k : K) c, nxi ≤ k.num → ρ1 k = some c → k.num < nxo := fun k c hk hcc => by
   rcases arng k with e | e
   ·rw [e, et, if_neg (by omega)] at hcc; cases hcc
   ·rw [n3] at e; exact e.2
  let ρ' : Env := { blk := fun k => if k.num < nx then ρ k else if k.num < nx + (nxo - nxi) then ρ1 (K.of (k.num - nx + nxi)) else none, sz := fun k => if k.num < nx then ρ.sz k else ρ1.sz (K.of (k.num - nx + nxi)), ft := fun k c => (∃ l, ac l (ae Lo) ≠ .none ∧ k = κ l ∧ ρ1.ft l c) ∨ ((∀ l, ac l (ae Lo) ≠ .none → k ≠ κ l) ∧ ρ.ft k c) }
  have e' : ∀ k : K, ρ' k = if k.num < nx then ρ k else if k.num < nx + (nxo - nxi) then ρ1 (K.of (k.num - nx + nxi)) else none := fun _ => rfl
  have s' : ∀ k : K, ρ'.sz k = if k.num < nx then ρ.sz k else ρ1.sz (K.of (k.num - nx + nxi)) := fun _ => rfl
  have ltOf : ∀ (k : K) c, ρ k = some c → k.num < nx := fun k c hk => by
   apply Classical.byContradiction
   intro hn
   rw [hc' k (by omega)] at hk; cases hk
  have kback : ∀ k, gd ρ1 ρ' k (κ k) := by
   intro k c hk
   by_cases h : k.num < nxi
   ·have h1 := rng1 k h
    rw [h1] at hk
    have hs := (ale k c hk).2
    rw [et, if_pos h] at hk
    have hlt := ltOf _ _ hk
    rw [e', s', if_pos hlt, if_pos hlt]
    exact ⟨hk, by rw [hs]⟩
   ·have hlt := rng2 k c (by omega) hk
    have ek : κ k = K.of (k.num - nxi + nx) := by rw [← hκ, tr (by omega) (by omega), if_pos (by omega)]
    have en : (κ k).num = k.num - nxi + nx := by rw [ek]; exact cr (by omega)
    have eb : k.num - nxi + nx - nx + nxi = k.num := by omega
    rw [e', s', en, if_neg (by omega), if_pos (by omega), if_neg (by omega), eb, ag4]
    exact ⟨hk, rfl⟩
  have outPlace : ∀ k, ac k (ae (bj κ θ A0 Lo)) ≠ .none → ∃ l, ac l (ae Lo) ≠ .none ∧ k = κ l ∧
    ((∃ a p, HO.mk a p ∈ Lo ∧ l = K.of a ∧ ac l (ae Lo) = dh p ∧ ac k (ae (bj κ θ A0 Lo)) = dh (sj κ θ A0 p)) ∨
     (k.num ≤ 255 ∧ l = k ∧ ac l (ae Lo) = ac k (kc laidL) ∧ ac k (ae (bj κ θ A0 Lo)) = ac k (kc laidL) ∧ ac k (kc laidL) ≠ .none)) := by
   intro k hk
   by_cases hl : ∃ a o, HO.mk a o ∈ Lo ∧ k = κ (K.of a)
   ·obtain ⟨a, o, hm, rfl⟩ := hl
    obtain ⟨p, p1, p2, p3⟩ := al8 (θ := θ) (A0 := A0) mapsO a o hm
    exact ⟨K.of a, by rw [p2]; exact acp _, rfl, .inl ⟨a, p, p1, rfl, p2, p3⟩⟩
   ·rcases ajf mapsO hk with h | h
    ·exact absurd h hl
    ·obtain ⟨g, cs, _, g1, g2, g3, _⟩ := mh h
     obtain ⟨m1, m2⟩ := agy (θ := θ) (A0 := A0) (κ := κ) g3 mapsO
     exact ⟨k, by rw [m2]; exact h, (klow k g3).symm, .inr ⟨g3, rfl, m2, m1, h⟩⟩
  have atOut : ∀ k c, ac k (ae (bj κ θ A0 Lo)) ≠ .none → ρ' k = some c → ∃ l, ac l (ae Lo) ≠ .none ∧ k = κ l ∧ ρ1 l = some c := by
   intro k c hk hcc
   obtain ⟨l, h1, h2, _⟩ := outPlace k hk
   obtain ⟨d, hd', _⟩ := rd l h1
   have := (kback l d hd').1
   rw [← h2, hcc] at this
   cases this
   exact ⟨l, h1, h2, hd'⟩
  have kinjO : ∀ k l, ac k (ae Lo) ≠ .none → ac l (ae Lo) ≠ .none → κ k = κ l → k = l := by
   intro k l hk hl e
   rcases xw hk with ⟨a, o, am, rfl⟩ | hk' <;> rcases xw hl with ⟨b, p, bm, rfl⟩ | hl'
   ·rw [mapsO.inj a o b p am bm e]
   ·obtain ⟨_, _, _, _, _, g3, _⟩ := mh hl'
    have := mapsO.hi a o am
    rw [e, klow l g3] at this; omega
   ·obtain ⟨_, _, _, _, _, g3, _⟩ := mh hk'
    have := mapsO.hi b p bm
    rw [← e, klow k g3] at this; omega
   ·obtain ⟨_, _, _, _, _, g3, _⟩ := mh hk'
    obtain ⟨_, _, _, _, _, g4, _⟩ := mh hl'
    rw [← klow k g3, ← klow l g4, e]
  have ftO : ∀ l, ac l (ae Lo) ≠ .none → ρ'.ft (κ l) = ρ1.ft l := by
   intro l hl
   funext c
   refine propext ⟨?_, fun h => .inl ⟨l, hl, rfl, h⟩⟩
   rintro (⟨m, m1, m2, m3⟩ | ⟨m1, m2⟩)
   ·rw [kinjO l m hl m1 m2]; exact m3
   ·exact absurd rfl (m1 l hl)
  have ftN : ∀ k, (∀ l, ac l (ae Lo) ≠ .none → k ≠ κ l) → ρ'.ft k = ρ.ft k := by
   intro k hk
   funext c
   refine propext ⟨?_, fun h => .inr ⟨hk, h⟩⟩
   rintro (⟨m, m1, m2, m3⟩ | ⟨m1, m2⟩)
   ·exact absurd m2 (hk m m1)
   ·exact m2
  have ghO : ∀ k, ay (ac k (ae (bj κ θ A0 Lo))) ≠ none → ∃ l kd g, k = κ l ∧ ay (ac l (ae Lo)) = some (kd, g) ∧ ay (ac k (ae (bj κ θ A0 Lo))) = some (kd, g.sub θ) := by
   intro k hk
   obtain ⟨l, l1, l2, l3⟩ := outPlace k (be hk)
   rcases l3 with ⟨a, p, pm, rfl, p1, p2⟩ | ⟨q1, q2, q3, q4, q5⟩
   ·rw [p2] at hk ⊢
    have : ay (dh p) ≠ none := fun e => hk (acz e)
    obtain ⟨kd, g, e1, e2⟩ := acy (κ := κ) (θ := θ) (A := A0) this
    exact ⟨K.of a, kd, g, l2, by rw [p1]; exact e1, e2⟩
   ·rw [q4, ai4] at hk; exact absurd rfl hk
  refine ⟨ρ', @Adv.mk ⟨σ⟩ _ _ _ _ _ _ (@WRel.mk ⟨σ⟩ _ _ _ ?_ ?_ ?_ ?_) ?_ ?_ ?_ asize ?_ ?_ ?_ ?_ aos atape aout, kback⟩
  ·intro k l hk hl e
   have hk0 : ac k (ae (bj κ θ A0 Lo)) ≠ .none := hk
   obtain ⟨k', k1, k2, k3⟩ := outPlace k hk
   obtain ⟨l', l1, l2, l3⟩ := outPlace l hl
   obtain ⟨c, hcc, _⟩ := rd k' k1
   obtain ⟨d, hdd, _⟩ := rd l' l1
   have q1 := (kback k' c hcc).1
   have q2 := (kback l' d hdd).1
   rw [← k2] at q1
   rw [← l2] at q2
   rw [q1, q2] at e
   injection e with e
   subst e
   rcases ri k' l' k1 l1 (by rw [hcc, hdd]) with q | ⟨q, r⟩
   ·left; rw [k2, l2, q]
   ·have roO : ∀ k k', ((∃ a p, HO.mk a p ∈ Lo ∧ k' = K.of a ∧ ac k' (ae Lo) = dh p ∧ ac k (ae (bj κ θ A0 Lo)) = dh (sj κ θ A0 p)) ∨
      (k.num ≤ 255 ∧ k' = k ∧ ac k' (ae Lo) = ac k (kc laidL) ∧ ac k (ae (bj κ θ A0 Lo)) = ac k (kc laidL) ∧ ac k (kc laidL) ≠ .none)) →
      (ac k (ae (bj κ θ A0 Lo))).isRo = (ac k' (ae Lo)).isRo := by
     intro k k' h
     rcases h with ⟨a, p, pm, rfl, p1, p2⟩ | ⟨q1, q2, q3, q4, q5⟩
     ·rw [p1, p2, sk κ θ A0]
     ·rw [q3, q4]
    exact .inr ⟨(roO k k' k3).trans q, (roO l l' l3).trans r⟩
  ·intro k hk
   obtain ⟨l, l1, l2, l3⟩ := outPlace k hk
   obtain ⟨c, hcc, ho⟩ := rd l l1
   refine ⟨c, by rw [l2]; exact (kback l c hcc).1, ?_⟩
   rcases l3 with ⟨a, p, pm, rfl, p1, p2⟩ | ⟨q1, q2, q3, q4, q5⟩
   ·have ho : @ORel (GvS σ θ) ρ1 (ac (K.of a) (ae Lo)) (w1.heap[c]?) := ho
    rw [p1] at ho
    show @ORel ⟨σ⟩ ρ' (ac k (ae (bj κ θ A0 Lo))) _
    rw [p2]
    exact a6f hA kback (mapsO.lo a p pm).2.2 ho
   ·subst q2
    have ho : @ORel (GvS σ θ) ρ1 (ac l (ae Lo)) (w1.heap[c]?) := ho
    show @ORel ⟨σ⟩ ρ' (ac l (ae (bj κ θ A0 Lo))) _
    obtain ⟨g, cs, g0, g1, g2, g3, g4⟩ := mh q5
    rw [q3, g4] at ho
    rw [q4, g4]
    exact an1 g0 ho
  ·intro k c arr t fz hk hcc hx
   obtain ⟨l, l1, l2, l3⟩ := atOut k c hk hcc
   have := rl l c arr t fz l1 l3 hx
   rw [this, l2]
   exact (kback l c l3).2.symm
  ·intro k kd g hk
   have hk : ay (ac k (ae (bj κ θ A0 Lo))) = some (kd, g) := hk
   obtain ⟨l, kd', g', rfl, e1, e2⟩ := ghO k (n9 hk)
   rw [hk] at e2
   injection e2 with e2
   injection e2 with e2 e2'
   subst e2 e2'
   have hl0 : ac l (ae Lo) ≠ .none := be (by rw [e1]; simp)
   obtain ⟨qroot, qrel, qlt, qsep, qdis⟩ := rg l kd g' e1
   obtain ⟨c0, hc0, _⟩ := rd l hl0
   have hk0 := (kback l c0 hc0).1
   refine @GhAt.mk ⟨σ⟩ _ _ _ _ _ _ ?_ ?_ ?_ ?_ ?_
   ·intro c hcc; rw [hk0] at hcc; injection hcc with hcc; subst hcc; rw [ftO l hl0]; exact qroot c0 hc0
   ·intro c hcc
    rw [hk0] at hcc; injection hcc with hcc; subst hcc
    rw [ftO l hl0, GE.sub_eval]
    exact qrel c0 hc0
   ·rw [ftO l hl0]; exact qlt
   ·intro m hm hml c hcc
    obtain ⟨m', m1, rfl, m3⟩ := atOut m c hm hcc
    rw [ftO l hl0]
    exact qsep m' m1 (by rintro rfl; exact hml rfl) c m3
   ·intro m hm hml c hcf
    have hm : ay (ac m (ae (bj κ θ A0 Lo))) ≠ none := hm
    obtain ⟨m', _, _, rfl, f1, _⟩ := ghO m hm
    have hm0 : ac m' (ae Lo) ≠ .none := be (by rw [f1]; simp)
    rw [ftO m' hm0] at hcf
    rw [ftO l hl0]
    exact qdis m' (by show ay (ac m' (ae Lo)) ≠ none; rw [f1]; simp) (by rintro rfl; exact hml rfl) c hcf
  ·intro k c hk
   have := ltOf k c hk
   rw [e', s', if_pos this, if_pos this]
   exact ⟨hk, rfl⟩
  ·intro k
   rw [n1, n4, e']
   by_cases h : k.num < nx
   ·rw [if_pos h]; exact .inl rfl
   ·rw [if_neg h]
    by_cases h2 : k.num < nx + (nxo - nxi)
    ·exact .inr ⟨by omega, h2⟩
    ·rw [if_neg h2]; exact .inl (hc' k (by omega)).symm
  ·rw [n1, n4]; omega
  ·rintro c ⟨k, hk, hro, hcc⟩
   rcases hcc with hcc | ⟨hcg, hcf⟩
   rotate_left
   ·have hcg : ay (ac k (ae (bj κ θ A0 Lo))) ≠ none := hcg
    obtain ⟨l, _, _, rfl, f1, _⟩ := ghO k hcg
    have hf : ay (ac l (ae Lo)) ≠ none := by rw [f1]; simp
    rw [ftO l (be hf)] at hcf
    rcases aown c ⟨l, be hf, ai6 hf, .inr ⟨hf, hcf⟩⟩ with q | q
    ·exact .inl (ownTo c q)
    ·exact .inr q
   obtain ⟨l, l1, l2, l3⟩ := atOut k c hk hcc
   have : @Own ρ1 (bf Lo nxo) c := by
    refine ⟨l, l1, ?_, .inl l3⟩
    obtain ⟨l', h1, h2, h3⟩ := outPlace k hk
    have hll : l' = l := by
     exact kinjO l' l h1 l1 (by rw [← h2, ← l2])
    subst hll
    rcases h3 with ⟨a, p, pm, rfl, p1, p2⟩ | ⟨q1, q2, q3, q4, q5⟩
    ·show (ac (K.of a) (ae Lo)).isRo = false
     rw [p1, ← sk κ θ A0, ← p2]; assumption
    ·have hro : (ac k (ae (bj κ θ A0 Lo))).isRo = false := hro
     show (ac l' (ae Lo)).isRo = false
     rw [q3, ← q4]; exact hro
   rcases aown c this with q | q
   ·exact .inl (ownTo c q)
   ·exact .inr q
  ·intro k c hk hcc
   obtain ⟨l, l1, l2, l3⟩ := atOut k c hk hcc
   rcases akeep l c l1 l3 with ⟨m, m1, m2⟩ | q
   ·obtain ⟨m3, m4, _⟩ := inPlace m m1
    rw [et, if_pos m3] at m2
    exact .inl ⟨κ m, m4, m2⟩
   ·exact .inr q
  ·intro c hcl hno
   exact aframe c hcl fun q => hno (ownTo c q)
  ·intro k hk hl
   have hl : ay (ac k (ae (bj κ θ A0 Li))) = none := hl
   rw [n1] at hk
   by_cases he : ∃ l, ac l (ae Lo) ≠ .none ∧ k = κ l
   ·obtain ⟨l, l0, rfl⟩ := he
    have hln : l.num < nxi := by
     apply Classical.byContradiction
     intro hn
     obtain ⟨d, hdd, _⟩ := rd l l0
     have := rng2 l d (by omega) hdd
     have en : (κ l).num = l.num - nxi + nx := by
      rw [← hκ, tr (by omega) (by omega), if_pos (by omega)]; exact cr (by omega)
     omega
    have hli : ay (ac l (ae Li)) = none := by
     by_cases e : ay (ac l (ae Li)) = none
     ·exact e
     ·obtain ⟨_, _, _, e3⟩ := ghI l e
      rw [hl] at e3; cases e3
    have q := afts l (by rw [n2]; exact hln) hli
    refine ⟨by rw [ftO l l0]; exact q.1, ?_⟩
    by_cases e : ay (ac (κ l) (ae (bj κ θ A0 Lo))) = none
    ·exact e
    ·exfalso
     obtain ⟨l', _, _, f0, f1, _⟩ := ghO _ e
     have := kinjO l l' l0 (be (n9 f1)) f0
     subst this
     have q2 : ay (ac l (ae Lo)) = none := q.2
     rw [f1] at q2; cases q2
   ·refine ⟨ftN k fun l h1 h2 => he ⟨l, h1, h2⟩, ?_⟩
    by_cases e : ay (ac k (ae (bj κ θ A0 Lo))) = none
    ·exact e
    ·exfalso
     obtain ⟨l', _, _, f0, f1, _⟩ := ghO _ e
     exact he ⟨l', be (by rw [f1]; simp), f0⟩
end
end Go.Ev
set_option maxRecDepth 100000
set_option linter.all false
namespace Go.Ev
noncomputable section
inductive TR where
 | ret (v : AV)
 | pan (ch : List PE)
inductive TM where
 | mk (f : FuncId) (vs : List AV) (nxi : Nat) (Li : List HO) (A : List SA) (bd : Option (SE × SE)) (r : TR) (nxo : Nat) (Lo : List HO)
def a60 (r : TR) (w : W) : CR := match r with
 | .ret v => .ret v w
 | .pan ch => .pan ch w
def leAV (A0 : List SA) : Nat → AV → AV → Bool
 | 0, _, _ => false
 | n + 1, a, b => match a, b with
   | _, .top => true
   | .slice b o len _ (some es), .gv (.sl b' es' m A) => K.beq b b' && Nat.beq o 0 && Nat.beq es es' && dk m (.c (.ofNat len)) && ly A A0
   | .agg l, .agg m => leL (leAV A0 n) l m
   | .tuple l, .tuple m => leL (leAV A0 n) l m
   | .iface t x, .iface t' y => bc (Nat.beq t t') (leAV A0 n x y) false
   | .str l m, .gv (.str (.lit l' m') A) => Nat.beq l l' && Nat.beq m m' && ly A A0
   | a, b => adz 8 a b
where leL (f : AV → AV → Bool) : List AV → List AV → Bool
 | [], [] => true
 | a :: l, b :: m => bc (f a b) (leL f l m) false
 | _, _ => false
def aa1 : List AV → Option (List Nat)
 | [] => some []
 | .int .u8 (.ofNat n) :: l => bc (Nat.ble n 255) ((aa1 l).map (n :: ·)) none
 | _ => none
def amg (ks : List IntKind) (l : List AV) : GE := match aa1 l with
 | some ns => bc (aiz ks) (.lit (bl ns) (qy ns 0)) (oe l)
 | none => oe l
def ap2 : List (AV × AV) → GE → Option GE
 | [], g => some g
 | (.str l n, .int .i64 v) :: es, g => bc (aai l n) (ap2 es (k7 (.one (.c v)) (k7 (.one (.c (.ofNat l))) (k7 (.lit l n) g)))) none
 | _, _ => none
def acl : List Nat → List Nat → Bool
 | [], [] => true
 | a :: l, b :: m => bc (Nat.beq a b) (acl l m) false
 | _, _ => false
def a06 (e : SE) (t : TypeId) (k : K) : List GP → Bool
 | [] => false
 | .mk e' t' k' :: l => bc (dk e e' && Nat.beq t t' && K.beq k k') true (a06 e t k l)
def anv (ps' : List GP) : List GP → Bool
 | [] => true
 | .mk e t k :: l => bc (a06 e t k ps') (anv ps' l) false
def agv (A0 : List SA) (o : LO) (x : AObj) : Bool := match o, x with
 | .gp ro t n g ps, .gp ro' t' n' g' ps' => ao0 ro ro' && Nat.beq t t' && dk n n' && kr g g' && anv ps' ps
 | .loop fn nt id l ps kd, .loop .ready none fn' nt' τ ps' x y kd' => Nat.beq fn fn' && Nat.beq nt nt' && acl ps ps' && K.beq kd kd' && Nat.beq (ko y) id && (ud fn id).isSome && Nat.beq (bl l) nt && leAV.leL (leAV A0 8) (lg τ nt 0) l
 | .cells t e fl fh l, .cells t' s e' fl' fh' c => Nat.beq t t' && ao0 e e' && Nat.beq fl fl' && Nat.beq fh fh' && Nat.beq s (bl l) && Nat.ble s 65536 && leAV.leL (leAV A0 8) (ki c s 0) l
 | .map es, .map es' => aap (adz 8) es' es
 | .gob g, .gob g' => a5a g' g
 | .gob (.junk t), .cells t' _ _ fl fh _ => Nat.beq t t' && Nat.ble fh fl
 | .gob (.gh t ks (.c (.ofNat n)) g), .cells t' s _ fl fh c => Nat.beq t t' && Nat.ble fh fl && Nat.ble (n * bl ks) s && tu ks 0 (ki c (n * bl ks) 0) && kr g (amg ks (ki c (n * bl ks) 0)) && (!aiz ks || (aa1 (ki c (n * bl ks) 0)).isSome || afo A0 (ki c (n * bl ks) 0))
 | .gob (.gmap m), .map es => (match ap2 es .nil with
   | some g => kr m g
   | none => false)
 | _, _ => false
inductive MT where
 | mk (KL : List (Nat × Nat)) (TH : List (Nat × GE))
def zz (k k' : K) : MT → MT
 | .mk KL TH => bc (Nat.ble k.num 255) (.mk KL TH) (match ez KL k.num with
   | some _ => .mk KL TH
   | none => .mk ((k.num, k'.num) :: KL) TH)
def w6 : List (Nat × GE) → Nat → Option GE
 | [], _ => none
 | p :: l, k => bc (Nat.beq p.1 k) (some p.2) (w6 l k)
def ayu (i : Nat) (g : GE) : MT → MT
 | .mk KL TH => match w6 TH i with
   | some _ => .mk KL TH
   | none => .mk KL ((i, g) :: TH)
def mSE (e : SE) (x : SE) (M : MT) : MT := match e with
 | .v i => ayu i (.one x) M
 | _ => M
def mL (f : AV → AV → MT → MT) : List AV → List AV → MT → MT
 | a :: l, b :: m, M => mL f l m (f a b M)
 | _, _, M => M
def mFn (f f' : Fn) (M : MT) : MT := match f, f' with
 | .yield m, .yield m' => zz (K.of m) (K.of m') M
 | _, _ => M
def mPs : List GP → List GP → MT → MT
 | .mk e _ k :: l, .mk e' _ k' :: l', M => mPs l l' (mSE e e' (zz k k' M))
 | _, _, M => M
def mAV : Nat → AV → AV → MT → MT
 | 0, _, _, M => M
 | n + 1, a, b, M => match a, b with
   | .ptr k _, .ptr k' _ => zz k k' M
   | .slice k _ _ _ _, .slice k' _ _ _ _ => zz k k' M
   | .map k, .map k' => zz k k' M
   | .func f x y, .func f' x' y' => mL (mAV n) y y' (mL (mAV n) x x' (mFn f f' M))
   | .iface _ x, .iface _ y => mAV n x y M
   | .agg l, .agg m => mL (mAV n) l m M
   | .tuple l, .tuple m => mL (mAV n) l m M
   | .sym _ e _, .int _ m => mSE e (.c m) M
   | .sym _ e _, .sym _ e' _ => mSE e e' M
   | .gv (.str (.s i) _), .str l m => ayu i (.lit l m) M
   | .gv (.str (.s i) _), .gv (.str g _) => ayu i g M
   | .gv (.sl k _ e _), .gv (.sl k' _ e' _) => mSE e e' (zz k k' M)
   | .gv (.sl k _ (.len (.s i)) _), .slice k' _ len _ _ => ayu (i + 1000000) (.one (.c (.ofNat len))) (zz k k' M)
   | .gv (.sl k _ e _), .slice k' _ len _ _ => mSE e (.c (.ofNat len)) (zz k k' M)
   | .gv (.ptr k _ e _ _), .gv (.ptr k' _ e' _ _) => mSE e e' (zz k k' M)
   | .gv (.sr k o e _), .gv (.sr k' o' e' _) => mSE o o' (mSE e e' (zz k k' M))
   | .gv (.pr k o e _), .gv (.pr k' o' e' _) => mSE o o' (mSE e e' (zz k k' M))
   | _, _ => M
def mGE (g : GE) (x : GE) (M : MT) : MT := match g with
 | .s i => ayu i x M
 | _ => M
def aka : MT → Nat → GE
 | .mk _ TH, i => match w6 TH i with
   | some g => g
   | none => .s i
def nOf (n : SE) : MT → Option Nat
 | .mk KL TH => match n with
   | .len (.s i) => (match w6 TH i, w6 TH (i + 1000000) with
     | none, some (.one (.c (.ofNat m))) => some m
     | some g, _ => (match dy g with
       | .c (.ofNat m) => some m
       | _ => none)
     | _, _ => none)
   | n => (match n.sub (aka (.mk KL TH)) with
     | .c (.ofNat m) => some m
     | _ => none)
def mLO (o : LO) (x : AObj) (M : MT) : MT := match o, x with
 | .gp _ _ n g ps, .gp _ _ n' g' ps' => mPs ps ps' (mGE g g' (mSE n n' M))
 | .loop _ nt _ l _ kd, .loop _ _ _ _ τ _ _ _ kd' => mL (mAV 8) l (lg τ nt 0) (zz kd kd' M)
 | .cells _ _ _ _ l, .cells _ s _ _ _ c => mL (mAV 8) l (ki c s 0) M
 | .gob (.gh _ _ n g), .gob (.gh _ _ n' g') => mGE g g' (mSE n n' M)
 | .gob (.gh _ ks n g), .cells _ _ _ _ _ c => (match nOf n M with
   | some m => mGE g (amg ks (ki c (m * bl ks) 0)) M
   | none => M)
 | .gob (.gmap m), .gob (.gmap m') => mGE m m' M
 | .gob (.lh _ m), .gob (.lh _ m') => mGE m m' M
 | .gob (.rh o n g), .gob (.rh o' n' g') => mGE g g' (mSE n n' (mSE o o' M))
 | .gob (.rb o n g), .gob (.rb o' n' g') => mGE g g' (mSE n n' (mSE o o' M))
 | .gob (.gmap m), .map es => (match ap2 es .nil with
   | some g => mGE m g M
   | none => M)
 | .gob (.iter g p _), .gob (.iter g' p' _) => mSE p p' (mGE g g' M)
 | _, _ => M
def alz : MT → List (Nat × Nat)
 | .mk KL _ => KL
def ayt (w : W) : List HO → MT → MT
 | [], M => M
 | .mk k o :: l, M => ayt w l (match ez (alz M) k with
   | some k' => mLO o (bz (K.of k') w) M
   | none => M)
def aes (A0 : List SA) (w : W) : List HO → Bool
 | [] => true
 | .mk k o :: l => bc (agv A0 o (bz (K.of k) w)) (aes A0 w l) false
def aaq (θ : Nat → GE) (A0 : List SA) : List SA → Bool
 | [] => true
 | .mk lt a b r :: l => bc (tp (cz lt (a.sub θ) (b.sub θ) A0) r) (aaq θ A0 l) false
def azq (θ : Nat → GE) (A0 : List SA) : List SA → Option Nat
 | [] => none
 | .mk lt a b r :: l => match cz lt (a.sub θ) (b.sub θ) A0 with
   | some c => bc (ur c r) (azq θ A0 l) none
   | none => some (bc lt (acj (a.sub θ) (b.sub θ)) (vc (a.sub θ) (b.sub θ)))
def a0l (bd : Option (SE × SE)) (θ : Nat → GE) (A0 : List SA) : Bool := match bd with
 | none => true
 | some p => dLt (p.1.sub θ) p.2 A0 true && dLt (p.1.sub θ) (.c 0) A0 false
def ani (a b : SE) (A0 : List SA) (r : Bool) (o : Option Nat) : Option Nat := match cz true a b A0 with
 | some c => bc (ur c r) o none
 | none => some (acj a b)
def a4h (bd : Option (SE × SE)) (θ : Nat → GE) (A0 : List SA) : Option Nat := match bd with
 | none => none
 | some p => ani (p.1.sub θ) p.2 A0 true (ani (p.1.sub θ) (.c 0) A0 false none)
def orN (o p : Option Nat) : Option Nat := match o with
 | some m => some m
 | none => p
def azp (θ : Nat → GE) (A0 : List SA) : List SA → Bool
 | [] => false
 | .mk lt a b r :: l => match cz lt (a.sub θ) (b.sub θ) A0 with
   | some c => bc (ur c r) (azp θ A0 l) true
   | none => azp θ A0 l
def a6e (bd : Option (SE × SE)) (θ : Nat → GE) (A0 : List SA) : Bool := match bd with
 | none => false
 | some p => dk (p.1.sub θ) p.2 || tp (cz true (p.1.sub θ) p.2 A0) false
def an8 (bd : Option (SE × SE)) (θ : Nat → GE) (A A0 : List SA) : Option Nat := bc (azp θ A0 A || a6e bd θ A0) none (orN (azq θ A0 A) (a4h bd θ A0))
def an6 (f : AV → AV) : List PE → List PE
 | [] => []
 | .mk v b :: l => .mk (f v) b :: an6 f l
def a9i (f : AV → AV) : TR → TR
 | .ret v => .ret (f v)
 | .pan ch => .pan (an6 f ch)
def a4d (vs us : List AV) (nxi nxo nx : Nat) (KL : List (Nat × Nat)) (θ : Nat → GE) (A0 : List SA) (Li Lo Li' Lo' : List HO) (w : W) : Bool :=
 bc (Nat.ble 256 nxi && Nat.ble nxi nxo && Nat.ble nxo 65535 && Nat.ble 256 nx && Nat.ble (nx + (nxo - nxi)) 65535)
  (bc (mm KL && yw nx KL && ae8 KL nxi Li && ae2 KL nxi nxo Lo && vj (nl 8) us)
    (bc (agt nx Li' && agu nx (nx + (nxo - nxi)) Li' Lo')
      (nc laidL w && aes A0 w Li' && leAV.leL (leAV A0 8) vs (shL (db (d8 KL nxi nx) θ A0 8) us)) false) false) false
def a3p (vs us : List AV) (nxi nxo nx : Nat) (KL : List (Nat × Nat)) (θ : Nat → GE) (A A0 : List SA) (Li Lo Li' Lo' : List HO) (w : W) : Bool :=
 bc (Nat.ble 256 nxi && Nat.ble nxi nxo && Nat.ble nxo 65535 && Nat.ble 256 nx && Nat.ble (nx + (nxo - nxi)) 65535)
  (bc (mm KL && yw nx KL && ae8 KL nxi Li && ae2 KL nxi nxo Lo && vj (nl 8) us)
    (bc (agt nx Li' && agu nx (nx + (nxo - nxi)) Li' Lo')
      (bc (nc laidL w && aes A0 w Li' && leAV.leL (leAV A0 8) vs (shL (db (d8 KL nxi nx) θ A0 8) us)) (aaq θ A0 A) false) false) false) false
def a34 (fit : Bool) (m : Option Nat) : Option Nat := bc fit m none
def ayw (o : Option Nat) : Option CR := match o with
 | some m => some (.no m 0)
 | none => none
def az1 (us : List AV) (nxi : Nat) (Li : List HO) (A : List SA) (bd : Option (SE × SE)) (r : TR) (nxo : Nat) (Lo : List HO) (vs : List AV) (w : W) (nx : Nat) (KL : List (Nat × Nat)) (θ : Nat → GE) (A0 : List SA) (Li' Lo' : List HO) : Option CR :=
 bc (a3p vs us nxi nxo nx KL θ A A0 Li Lo Li' Lo' w && a0l bd θ A0) (some (a60 (a9i (db (d8 KL nxi nx) θ A0 8) r) (.mk (uj Lo' (pd Li' (hOf w))) (K.of (nx + (nxo - nxi)))))) (ayw (a34 (a4d vs us nxi nxo nx KL θ A0 Li Lo Li' Lo' w) (an8 bd θ A A0)))
def ap3 : List (Nat × GE) → Bool
 | [] => true
 | p :: l => bc (Nat.beq p.1 99) false (ap3 l)
def thM : MT → List (Nat × GE)
 | .mk _ TH => TH
def az3 (us : List AV) (nxi : Nat) (Li : List HO) (A : List SA) (bd : Option (SE × SE)) (r : TR) (nxo : Nat) (Lo : List HO) (vs : List AV) (w : W) (M : MT) (A0 : List SA) : Option CR :=
 bc (ap3 (thM M)) (az1 us nxi Li A bd r nxo Lo vs w (wnx w).num (alz M) (aka M) A0 (bj (d8 (alz M) nxi (wnx w).num) (aka M) A0 Li) (bj (d8 (alz M) nxi (wnx w).num) (aka M) A0 Lo)) none
end
def lm [Gv] (f : FuncId) (vs : List AV) (nxi : Nat) (Li : List HO) (r : TR) (nxo : Nat) (Lo : List HO) : Prop := ∀ (ρ : Env) (args : Array Value) (w : World), GRel ρ → WRel ρ (bf Li nxi) w → Clean ρ (bf Li nxi) → VRels ρ vs args.toList →
 Calls PP f args w (CPost ρ (bf Li nxi) w (a60 r (bf Lo nxo)))
def afu [Gv] (σ : Nat → List Int) (bd : Option (SE × SE)) : Prop := match bd with
 | none => True
 | some p => 0 ≤ p.1.eval σ ∧ p.1.eval σ < p.2.eval Gv.σ
def fe [Gv] : TM → Prop
 | .mk f vs nxi Li A bd r nxo Lo => ∀ σ : Nat → List Int, σ 99 = Gv.σ 99 → SAll σ A → afu σ bd → @lm ⟨σ⟩ f vs nxi Li r nxo Lo
theorem aef [Gv] {A : List SA} (hA : SAll Gv.σ A) {x y : SE} {r : Bool} (h : dLt x y A r = true) : decide (x.eval Gv.σ < y.eval Gv.σ) = r := by
 unfold dLt tp at h
 split at h
 ·rename_i c hc
  have := b7 hA hc
  have e := xl h
  subst e
  exact this
 ·cases h
theorem ane [Gv] {bd : Option (SE × SE)} {θ : Nat → GE} {A0 : List SA} (hA : SAll Gv.σ A0) (h : a0l bd θ A0 = true) : afu (fun i => (θ i).eval Gv.σ) bd := by
 cases bd with
 | none => trivial
 | some p =>
   simp only [a0l, zU] at h
   have h1 := nu (aef hA h.1)
   have h2 := nu (aef hA h.2)
   rw [SE.sub_eval] at h1 h2
   have h1 := h1.1 rfl
   have h2 := h2.2 rfl
   simp only [SE.eval] at h2
   exact ⟨by omega, h1⟩
section
variable [Gv] {ρ : Env} {w : World} {aw : W}
theorem tv {f : AV → AV → Bool} (hf : ∀ a b x, f a b = true → VRel ρ a x → VRel ρ b x) : ∀ {l m : List AV} {xs : List Value}, leAV.leL f l m = true → VRels ρ l xs → VRels ρ m xs
 | [], [], _, _, h => h
 | [], _ :: _, _, h, _ => by cases h
 | _ :: _, [], _, h, _ => by cases h
 | a :: l, b :: m, _, h, hx => by
   simp only [leAV.leL] at h
   obtain ⟨h1, h2⟩ := bcT.1 h
   simp only [VRels] at hx ⊢
   obtain ⟨v, vs, e, q1, q2⟩ := hx
   exact ⟨v, vs, e, hf _ _ _ h1 q1, tv hf h2 q2⟩
theorem sd {A0 : List SA} (hA : SAll Gv.σ A0) : ∀ n a b x, leAV A0 n a b = true → VRel ρ a x → VRel ρ b x
 | 0, _, _, _, h, _ => by cases h
 | n + 1, a, b, x, h, hx => by
   have ih := sd hA n
   unfold leAV at h
   split at h
   ·simp only [VRel]
   ·simp only [zU] at h
    obtain ⟨⟨⟨⟨h1, h2⟩, h3⟩, h4⟩, h5⟩ := h
    have h1 := (K.beq_iff _ _).1 h1
    have h2 := zW h2
    have h3 := zW h3
    have h4 := av _ _ h4
    have h5 := ja _ _ h5
    subst h1 h2 h3 h4 h5
    simp only [VRel] at hx ⊢
    obtain ⟨c, cap', q1, ⟨q2, q3⟩, q4, q5⟩ := hx
    simp only [SlOk] at q4
    refine ⟨hA, c, cap', q1, by simp only [SE.eval]; exact Int.natCast_nonneg _, by simp only [SE.eval]; simp; omega, by omega, by rw [q5]; simp [SE.eval]⟩
   ·simp only [VRel] at hx ⊢; obtain ⟨ys, e, q⟩ := hx; exact ⟨ys, e, tv ih h q⟩
   ·simp only [VRel] at hx ⊢; obtain ⟨ys, e, q⟩ := hx; exact ⟨ys, e, tv ih h q⟩
   ·obtain ⟨h1, h2⟩ := bcT.1 h
    have h1 := zW h1
    subst h1
    simp only [VRel] at hx ⊢; obtain ⟨v, e, q⟩ := hx; exact ⟨v, e, ih _ _ _ h2 q⟩
   ·simp only [zU] at h
    obtain ⟨⟨h1, h2⟩, h3⟩ := h
    have h1 := zW h1
    have h2 := zW h2
    have h3 := ja _ _ h3
    subst h1 h2 h3
    obtain ⟨q1, q2⟩ := jy (by rfl) hx
    simp only [VRel]
    exact ⟨hA, q1, q2⟩
   ·rw [← aad 8 _ _ h]; exact hx
theorem ags {f : AV → AV → Bool} : ∀ {l m : List AV}, leAV.leL f l m = true → l.length = m.length ∧ ∀ (i : Nat) (h1 : i < l.length) (h2 : i < m.length), f l[i] m[i] = true
 | [], [], _ => ⟨rfl, fun i h => by simp at h⟩
 | [], _ :: _, h => by cases h
 | _ :: _, [], h => by cases h
 | a :: l, b :: m, h => by
   simp only [leAV.leL] at h
   obtain ⟨h1, h2⟩ := bcT.1 h
   obtain ⟨e, ih⟩ := ags h2
   refine ⟨by simp [e], fun i q1 q2 => ?_⟩
   cases i with
   | zero => exact h1
   | succ i => exact ih i (by simpa using q1) (by simpa using q2)
theorem uw : ∀ {l : List AV} {ns : List Nat}, aa1 l = some ns → (oe l).eval Gv.σ = ns.map (fun n : Nat => (n : Int)) ∧ ∀ n ∈ ns, n ≤ 255
 | [], ns, h => by cases h; exact ⟨by simp only [oe, GE.eval, List.map_nil], fun n h => by cases h⟩
 | v :: l, ns, h => by
   unfold aa1 at h
   split at h
   ·rename_i e; cases e
   ·rename_i n r e
    cases e
    rw [aa] at h
    split at h <;> try (cases h; done)
    rename_i hn
    rw [zG] at h
    obtain ⟨ms, hm, rfl⟩ := h
    obtain ⟨e1, e2⟩ := uw hm
    refine ⟨?_, fun m hm => ?_⟩
    ·simp only [oe, q9, co, e1, GE.eval, SE.eval, List.map_cons, List.singleton_append]; rfl
    ·rcases List.mem_cons.1 hm with rfl | q
     ·exact zE hn
     ·exact e2 m q
   ·cases h
theorem zu : ∀ (ns : List Nat) (a : Nat), (∀ n ∈ ns, n ≤ 255) → qy ns a = kw (ns.map UInt8.ofNat) a
 | [], _, _ => rfl
 | n :: ns, a, h => by
   simp only [qy, kw, List.map_cons]
   have hn : (UInt8.ofNat n).toNat = n := by have := h n (by simp); simp; omega
   rw [hn, zu ns _ fun m hm => h m (zA _ hm)]
theorem apz {ns : List Nat} (h : ∀ n ∈ ns, n ≤ 255) : (GE.lit (bl ns) (qy ns 0)).eval Gv.σ = ns.map (fun n : Nat => (n : Int)) := by
 simp only [GE.eval]
 rw [ao, zu ns 0 h, show ns.length = (ns.map UInt8.ofNat).length by simp, (ve _ (ns.map UInt8.ofNat) rfl).2, List.map_map]
 apply List.map_congr_left
 intro n hn
 have := h n hn
 simp only [Function.comp]
 have e : (UInt8.ofNat n).toNat = n := by simp; omega
 rw [e]
theorem afi (ks : List IntKind) (l : List AV) : (amg ks l).eval Gv.σ = (oe l).eval Gv.σ := by
 unfold amg
 split
 ·rename_i ns hn
  obtain ⟨h1, h2⟩ := uw hn
  rw [aa]
  split
  ·rw [apz h2, h1]
  ·rfl
 ·rfl
theorem aje : ∀ {es : List (AV × AV)} {ms : List MapEntry} {g r : GE} {ms0 : List MapEntry}, ap2 es g = some r → ERel ρ es ms → MRel (vb (g.eval Gv.σ)) ms0 → MRel (vb (r.eval Gv.σ)) (ms0 ++ ms)
 | [], _, g, r, ms0, h, he, h0 => by cases h; simp only [ERel] at he; subst he; simpa using h0
 | p :: es, _, g, r, ms0, h, he, h0 => by
   unfold ap2 at h
   split at h
   ·rename_i heq; cases heq
   ·rename_i g' l n v es' e1
    injection e1 with e1 e2
    subst e1 e2
    rw [aa] at h
    split at h <;> try (cases h; done)
    rename_i hl
    simp only [ERel] at he
    obtain ⟨m, ms, rfl, q1, q2, q3⟩ := he
    simp only [VRel] at q1 q2
    have := aje (ms0 := ms0 ++ [m]) h q3 (by
     rw [co, co, co]
     simp only [GE.eval, SE.eval, List.singleton_append]
     have hlen : ((aq l n).map fun b => (b.toNat : Int)).length = l := by simp [aj]
     conv => arg 1; arg 1; arg 2; arg 1; rw [show (Int.ofNat l) = (((aq l n).map fun b => (b.toNat : Int)).length : Int) by rw [hlen]; rfl]
     rw [aey]
     refine MRel.snoc ?_ (jv _) q2 _ _ h0
     rw [q1.2, kf]
     rfl)
    simpa using this
   ·cases h
theorem pn {ρ : Env} {τ : F} {tmps : Array Value} (hf : FRel ρ τ tmps) : ∀ (n i : Nat), i + n = tmps.size → VRels ρ (lg τ n i) (tmps.toList.drop i)
 | 0, i, h => by
   simp only [lg, VRels]
   exact List.drop_eq_nil_of_le (by simp; omega)
 | n + 1, i, h => by
   simp only [lg, VRels]
   refine ⟨tmps.getD i undef, tmps.toList.drop (i + 1), ?_, hf i, pn hf n (i + 1) (by omega)⟩
   have hi : i < tmps.toList.length := by simp; omega
   rw [List.drop_eq_getElem_cons hi]
   congr 1
   have hi' : i < tmps.size := by omega
   simp [Array.getD, hi']
theorem ade {ρ : Env} {us : List AV} {tmps : Array Value} (hv : VRels ρ us tmps.toList) (hn : us.length ≤ 512) : FRel ρ (na us 0 lr) tmps := by
 have hlen : tmps.size = us.length := by have := VRels.length _ _ hv; simpa using this
 have := yh (nt := tmps.size) hv (by omega) (by omega)
 simpa using this
theorem yr : ∀ {l m : List Nat}, acl l m = true → l = m
 | [], [], _ => rfl
 | [], _ :: _, h => by cases h
 | _ :: _, [], h => by cases h
 | a :: l, b :: m, h => by
   simp only [acl] at h
   obtain ⟨h1, h2⟩ := bcT.1 h
   rw [zW h1, yr h2]
theorem air {e : SE} {t : TypeId} {k : K} : ∀ {l : List GP}, a06 e t k l = true → GP.mk e t k ∈ l
 | [], h => by cases h
 | .mk e' t' k' :: l, h => by
   simp only [a06, aa] at h
   split at h
   ·rename_i q
    simp only [zU] at q
    obtain ⟨⟨q1, q2⟩, q3⟩ := q
    have q1 := av _ _ q1
    have q2 := zW q2
    have q3 := (K.beq_iff _ _).1 q3
    subst q1 q2 q3
    exact List.mem_cons_self ..
   ·exact zA _ (air h)
theorem aeq {ρ : Env} {arr : Array Value} {ps' : List GP} (hp : GPs ρ arr ps') : ∀ {ps : List GP}, anv ps' ps = true → GPs ρ arr ps
 | [], _, _, _, _, hm => by cases hm
 | .mk e' t' k' :: ps, h, e, t, k, hm => by
   simp only [anv] at h
   obtain ⟨h1, h2⟩ := bcT.1 h
   rcases List.mem_cons.1 hm with q | q
   ·injection q with q1 q2 q3
    subst q1 q2 q3
    exact hp _ _ _ (air h1)
   ·exact aeq hp h2 e t k q
theorem se {A0 : List SA} (hA : SAll Gv.σ A0) {o : LO} {x : AObj} (h : agv A0 o x = true) : x ≠ .none ∧ x.isRo = (dh o).isRo ∧ ∀ ρ y, ORel ρ x y → ORel ρ (dh o) y := by
 unfold agv at h
 split at h
 ·rename_i ro t n g ps ro' t' n' g' ps'
  simp only [zU] at h
  obtain ⟨⟨⟨⟨h1, h2⟩, h3⟩, h4⟩, h5⟩ := h
  have h1 := vt h1
  have h2 := zW h2
  have h3 := av _ _ h3
  have h4 := bw _ _ h4
  subst h1 h2 h3 h4
  refine ⟨by simp, rfl, fun ρ y hy => ?_⟩
  obtain ⟨arr, fz, e1, e2, e3, e4, e5, e6, e7⟩ := hy
  exact ⟨arr, fz, e1, e2, e3, e4, e5, e6, aeq e7 h5⟩
 ·rename_i fn nt id l ps kd fn' nt' τ ps' x y kd'
  simp only [zU] at h
  obtain ⟨⟨⟨⟨⟨⟨⟨h1, h2⟩, h3⟩, h4⟩, h5⟩, h6⟩, h7⟩, h8⟩ := h
  have h1 := zW h1
  have h2 := zW h2
  have h3 := yr h3
  have h4 := (K.beq_iff _ _).1 h4
  have h5 := zW h5
  have h7 := zW h7
  subst h1 h2 h3 h4
  rw [ao] at h7
  refine ⟨by simp, rfl, fun ρ y0 hy => ?_⟩
  obtain ⟨tmps, c, e1, e2, e3, e4, e5, g, e6⟩ := hy
  obtain ⟨r1, r2⟩ := ac0 h6 e6 h5
  subst r1 r2
  have hs := pn e5 nt 0 (by omega)
  rw [List.drop_zero] at hs
  exact ⟨tmps, c, e1, e2, e3, e4, (mp (by omega) (by omega)).2 (tv (sd hA 8) h8 hs), g, e6⟩
 ·rename_i t e fl fh l t' s e' fl' fh' c
  simp only [zU] at h
  obtain ⟨⟨⟨⟨⟨⟨h1, h2⟩, h3⟩, h4⟩, h5⟩, h6⟩, h7⟩ := h
  refine ⟨by simp, rfl, fun ρ y hy => ?_⟩
  obtain ⟨arr, fz, e1, e2, e3, e4, e5, e6⟩ := hy
  have h1 := zW h1
  have h2 := vt h2
  have h3 := zW h3
  have h4 := zW h4
  have h5 := zW h5
  have h6 := zE h6
  subst h1 h2 h3 h4
  obtain ⟨g1, g2⟩ := ags h7
  rw [ao] at h5
  have hcap := f8 l.length (by omega)
  refine ⟨arr, fz, e1, by rw [ao]; omega, fun q => by rw [ao, ← h5]; exact e3 q, by rw [ao, cx]; exact hcap, e5, ?_⟩
  intro i hi
  rw [ao] at hi
  obtain ⟨v, q1, q2⟩ := e6 i (by omega)
  refine ⟨v, q1, ?_⟩
  rw [ao, gc l 0 _ i (by omega) (by omega), dif_pos ⟨Nat.zero_le _, by omega⟩]
  have hil : i < (ki c s 0).length := by rw [g1]; omega
  have := g2 i hil (by omega)
  refine sd hA 8 _ _ _ this ?_
  simpa [rn] using q2
 ·rename_i es es'
  refine ⟨by simp, rfl, fun ρ y hy => ?_⟩
  rw [acs (aad 8) _ _ h] at hy
  exact hy
 ·rename_i g g'
  have := ans h
  subst this
  exact ⟨by simp, rfl, fun ρ y hy => hy⟩
 ·rename_i t t' s e fl fh c
  simp only [zU] at h
  obtain ⟨h1, h2⟩ := h
  have h1 := zW h1
  have h2 := zE h2
  subst h1
  refine ⟨by simp, rfl, fun ρ y hy => ?_⟩
  obtain ⟨arr, fz, e1, e2, e3, e4, e5, e6⟩ := hy
  refine ⟨arr, fz, e1, ?_⟩
  apply Classical.byContradiction
  intro hn
  have := e5.2 fz.1 (zY _) (by omega)
  omega
 ·rename_i t ks n g t' s e fl fh c
  simp only [zU] at h
  obtain ⟨⟨⟨⟨⟨h1, h2⟩, h3⟩, h4⟩, h5⟩, h6⟩ := h
  have h1 := zW h1
  have h2 := zE h2
  have h3 := zE h3
  have h5 := bw _ _ h5
  subst h1 h5
  refine ⟨by simp, rfl, fun ρ y hy => ?_⟩
  obtain ⟨arr, fz, e1, e2, e3, e4, e5, e6⟩ := hy
  obtain ⟨l', q1, q2, q3⟩ := nf (i := 0) (n := n * bl ks) e6 (by omega)
  obtain ⟨k1, k2⟩ := n7 (ρ := ρ) (A := A0) h4 q2
  have hev : (amg ks (ki c (n * bl ks) 0)).eval Gv.σ = l'.map (fun v => match v with | .int _ n => n | _ => (0 : Int)) := (afi ks _).trans k1
  have hlen : l'.length = n * ks.length := by rw [q1, ao]
  refine ⟨arr, fz, e1, ?_, by simp only [SE.eval]; exact Int.natCast_nonneg _, ?_, ?_, ?_, ?_⟩
  ·apply Classical.byContradiction
   intro hn
   have := e5.2 fz.1 (zY _) (by omega)
   omega
  ·rw [hev, List.length_map, hlen, Nat.mul_comm]; simp [SE.eval]
  ·rw [hev, List.length_map, q1]; omega
  ·intro hk
   rw [isU8_eq.2 hk] at h6
   simp only [Bool.not_true, Bool.false_or, Bool.or_eq_true] at h6
   rcases h6 with h6 | h6
   ·obtain ⟨ns, hns⟩ := Option.isSome_iff_exists.1 h6
    obtain ⟨r1, r2⟩ := uw hns
    rw [afi, r1]
    intro z hz
    obtain ⟨m, hm, rfl⟩ := List.mem_map.1 hz
    have := r2 m hm
    omega
   ·rw [hev]; exact xo hA h6 q2
  ·intro i hi
   have hi' : i < l'.length := by rw [hev, List.length_map] at hi; exact hi
   obtain ⟨k, v, r1, r2⟩ := k2 i hi'
   rw [Nat.zero_add] at r1
   refine ⟨k, r1, ?_⟩
   have := q3 i _ (zK hi')
   rw [Nat.zero_add] at this
   rw [this, r2]
   congr 2
   rw [List.getElem_of_eq hev hi]
   simp only [List.getElem_map, r2]
 ·rename_i m es
  split at h
  ·rename_i g hg
   have h := bw _ _ h
   subst h
   refine ⟨by simp, rfl, fun ρ y hy => ?_⟩
   obtain ⟨a, b, h1, h2⟩ := hy
   exact ⟨a, b, h1, by simpa using aje (ms0 := []) hg h2 rfl⟩
  ·cases h
 ·cases h
theorem yj {A0 : List SA} : ∀ {L : List HO} {aw : W}, aes A0 aw L = true → ∀ n o, HO.mk n o ∈ L → agv A0 o (bz (K.of n) aw) = true
 | [], _, _, _, _, h => by cases h
 | .mk k p :: L, aw, h, n, o, hm => by
   simp only [aes] at h
   obtain ⟨h1, h2⟩ := bcT.1 h
   rcases List.mem_cons.1 hm with e | e
   ·injection e with e1 e2; subst e1 e2; exact h1
   ·exact yj h2 n o e
theorem a28 {A0 : List SA} {o : LO} {x : AObj} {kd : Nat} {g : GE} (h : agv A0 o x = true) (ho : ay (dh o) = some (kd, g)) : ∃ g', ay x = some (kd, g') ∧ g.eval Gv.σ = g'.eval Gv.σ := by
 cases o with
 | gob o =>
   cases o <;> first | (cases ho; done) | skip
   injection ho with ho
   injection ho with e1 e2
   subst e1 e2
   cases x <;> first | (cases h; done) | skip
   have := ans h
   subst this
   exact ⟨_, rfl, rfl⟩
 | _ => cases ho
theorem aiu {A0 : List SA} (hA : SAll Gv.σ A0) {L : List HO} {nx : Nat} {aw : W} (h1 : K.of nx = wnx aw) (h2 : nc laidL aw = true) (h3 : aes A0 aw L = true) : Sub (bf L nx) aw := by
 refine ⟨?_, ?_, ?_⟩
 ·show K.of nx = aw.nx
  rw [h1]; cases aw; rfl
 ·intro k hk
  have hk : ac k (ae L) ≠ .none := hk
  show _ ∧ (ac k (ae L)).isRo = _ ∧ ∀ ρ x, _ → ORel ρ (ac k (ae L)) x
  rcases gm k L hk with ⟨n, o, q1, q2, q3⟩ | ⟨g, cs, q1, q2, q3⟩
  ·subst q2
   have := yj h3 n o q1
   rw [ar] at this
   obtain ⟨r1, r2, r3⟩ := se hA this
   rw [q3]
   exact ⟨r1, by rw [r2], r3⟩
  ·subst q2
   obtain ⟨n, c, r1⟩ := u9 h2 g cs q1
   rw [ar] at r1
   rw [q3, r1]
   refine ⟨by simp, rfl, fun ρ x hx => ?_⟩
   obtain ⟨arr, t', fz, e1, e2, e3, e4, e5⟩ := hx
   obtain ⟨_, _, f3⟩ := gg _ fo g cs q1
   have hv := e5 g cs rfl q1
   have hlen := VRels.length _ _ (hv ρ)
   rw [ao]
   refine ⟨arr, t', fz, e1, by simpa using hlen, by rw [cx]; exact f8 _ f3, fun i hi => ?_, e5⟩
   obtain ⟨v, s1, s2⟩ := ot (hv ρ) f3 i hi
   exact ⟨v, by simpa using s1, s2⟩
 ·intro k kd g hk
  have hk : ay (ac k (ae L)) = some (kd, g) := hk
  rcases gm k L (be (n9 hk)) with ⟨n, o, q1, q2, q3⟩ | ⟨g', cs, q1, q2, q3⟩
  ·subst q2
   have := yj h3 n o q1
   rw [ar] at this
   rw [q3] at hk
   exact a28 this hk
  ·rw [q3] at hk; cases hk
theorem vf {θ : Nat → GE} {A0 : List SA} (hA : SAll Gv.σ A0) : ∀ {A : List SA}, aaq θ A0 A = true → SAll (fun i => (θ i).eval Gv.σ) A
 | [], _ => SAll.nil
 | .mk lt a b r :: A, h => by
   simp only [aaq] at h
   obtain ⟨h1, h2⟩ := bcT.1 h
   intro x hx
   rcases List.mem_cons.1 hx with e | e
   ·subst e
    unfold tp at h1
    split at h1
    ·rename_i c hc
     have := b7 hA hc
     have e := xl h1
     subst e
     cases lt
     ·have this : decide ((a.sub θ).eval Gv.σ = (b.sub θ).eval Gv.σ) = c := this
      show decide (a.eval _ = b.eval _) = c
      rw [← this]
      exact decide_eq_decide.2 (by rw [SE.sub_eval, SE.sub_eval])
     ·have this : decide ((a.sub θ).eval Gv.σ < (b.sub θ).eval Gv.σ) = c := this
      show decide (a.eval _ < b.eval _) = c
      rw [← this]
      exact decide_eq_decide.2 (by rw [SE.sub_eval, SE.sub_eval])
    ·cases h1
   ·exact vf hA h2 x e
theorem arh {σ : Nat → List Int} {θ : Nat → GE} {κ : K → K} {ρ ρt : Env} {A : List SA} (hA : SAll σ A) (hk : ∀ k, gd ρt ρ k (κ k)) : ∀ {ch : List PE} {l : List PanicEntry}, @ChRel (GvS σ θ) ρt ch l → @ChRel ⟨σ⟩ ρ (an6 (db κ θ A 8) ch) l
 | [], _, h => h
 | .mk v r :: ch, _, ⟨v', ch', h1, h2, h3⟩ => ⟨v', ch', h1, bwd hA hk 8 _ _ h2, arh hA hk h3⟩
theorem ae4 : ∀ {l : List (Nat × GE)}, ap3 l = true → w6 l 99 = none
 | [], _ => rfl
 | p :: l, h => by
   simp only [ap3, aa] at h
   split at h
   ·cases h
   ·rename_i hp
    simp only [w6, aa]
    rw [if_neg hp]
    exact ae4 h
set_option maxHeartbeats 1000000 in
theorem az2 {f : FuncId} {us : List AV} {nxi : Nat} {Li : List HO} {A : List SA} {bd : Option (SE × SE)} {r : TR} {nxo : Nat} {Lo : List HO} (hT : fe (.mk f us nxi Li A bd r nxo Lo)) {vs : List AV} {aw : W} {KL : List (Nat × Nat)} {θ : Nat → GE} {A0 : List SA}
  (h99 : (θ 99).eval Gv.σ = Gv.σ 99) {R : CR} (hR : R.ok)
  (hr : az1 us nxi Li A bd r nxo Lo vs aw (wnx aw).num KL θ A0 (bj (d8 KL nxi (wnx aw).num) θ A0 Li) (bj (d8 KL nxi (wnx aw).num) θ A0 Lo) = some R)
  {ρ : Env} {args : Array Value} {w : World} (hA : SAll Gv.σ A0) (hg : GRel ρ) (hw : WRel ρ aw w) (hc : Clean ρ aw) (hv : VRels ρ vs args.toList) : Calls PP f args w (CPost ρ aw w R) := by
 unfold az1 at hr
 rw [aa] at hr
 split at hr
 case isFalse =>
  unfold ayw at hr
  split at hr
  ·injection hr with hr; subst hr; exact hR.elim
  ·cases hr
 rename_i hok
 injection hr with hr
 subst hr
 rw [zU] at hok
 obtain ⟨hok, hbd⟩ := hok
 unfold a3p at hok
 obtain ⟨k1, hok⟩ := bcT.1 hok
 obtain ⟨k2, hok⟩ := bcT.1 hok
 obtain ⟨k3, hok⟩ := bcT.1 hok
 obtain ⟨k4, k5⟩ := bcT.1 hok
 simp only [zU] at k1 k2 k3 k4
 obtain ⟨⟨⟨⟨b1, b2⟩, b3⟩, b4⟩, b5⟩ := k1
 obtain ⟨⟨⟨⟨d1, d2⟩, d3⟩, d4⟩, d5⟩ := k2
 obtain ⟨f1, f2⟩ := k3
 obtain ⟨⟨g1, g2⟩, g3⟩ := k4
 have b1 := zE b1
 have b2 := zE b2
 have b3 := zE b3
 have b4 := zE b4
 have b5 := zE b5
 have hSA := vf hA k5
 have sub := aiu hA (nx := (wnx aw).num) (K.of_of _) g1 g2
 have hcl : Clean ρ (bf (bj (d8 KL nxi (wnx aw).num) θ A0 Li) (wnx aw).num) := fun k hk => hc k (by rw [← sub.nx]; exact hk)
 obtain ⟨ρt, q1, q2, q3, q4, q5⟩ := azm (σ := Gv.σ) (θ := θ) hA b1 b2 b3 b4 b5 d1 d2 d3 d4 hg (hw.sub sub) hcl
 have hv' : @VRels (GvS Gv.σ θ) ρt us args.toList := aim (fun x v p h => fwd hA q4 8 x v p h) d5 (tv (sd hA 8) g3 hv)
 have := hT (fun i => (θ i).eval Gv.σ) h99 hSA (ane hA hbd) ρt args w q1 q2 q3 hv'
 refine Calls.mono this fun e w' hp => ?_
 cases r with
 | ret v =>
   obtain ⟨v', ρ1, rfl, hv1, hA1⟩ := hp
   obtain ⟨ρ', hA2, hkb⟩ := q5 ρ1 w' hA1
   exact ⟨v', ρ', rfl, bwd hA hkb 8 _ _ hv1, yg hw hc sub f1 f2 b5 hA2⟩
 | pan ch =>
   obtain ⟨ch', ρ1, rfl, hv1, hA1⟩ := hp
   obtain ⟨ρ', hA2, hkb⟩ := q5 ρ1 w' hA1
   exact ⟨ch', ρ', rfl, arh hA hkb hv1, yg hw hc sub f1 f2 b5 hA2⟩
end
end Go.Ev
