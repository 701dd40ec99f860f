import Derived.Test.YtocilenpboklbaaGreatDoorEvFr
set_option maxRecDepth 100000
set_option linter.all false
namespace Go.Ev
noncomputable section
def afu (l n : Nat) : Bool := Nat.blt n (Nat.pow 256 l)
def a86 (k : IntKind) (e : SE) (A : List SA) : AV := match e with
 | .c n => .int k n
 | e => .sym k e A
def a85 (g : GE) (A : List SA) : AV := match g with
 | .lit l n => bc (afu l n) (.str l n) (.gv (.str (.lit l n) A))
 | .nil => .str 0 0
 | g => .gv (.str g A)
def bai (op : Nat) (k : IntKind) (a b : SE) : SE := match op, a, b with
 | 0, .c m, .c n => .c (qo k (Int.add m n))
 | 1, .c m, .c n => .c (qo k (Int.sub m n))
 | 2, .c m, .c n => .c (qo k (Int.mul m n))
 | 6, a, b => jv a b
 | 7, .c m, .c n => .c (Int.mul m n)
 | op, a, b => .bin op k a b
def hdE : GE → SE
 | .one e => e
 | .s i => .v i
 | g => .rd g (.c 0)
mutual
def SE.sub (θ : Nat → GE) : SE → SE
 | .v i => hdE (θ i)
 | .c n => .c n
 | .bin op k a b => bai op k (a.sub θ) (b.sub θ)
 | .len g => fi (g.sub θ)
 | .rd g e => .rd (g.sub θ) (e.sub θ)
 | .dr g e => .dr (g.sub θ) (e.sub θ)
 | .dw g e => .dw (g.sub θ) (e.sub θ)
 | .eqg g h => .eqg (g.sub θ) (h.sub θ)
 | .mhas m g => .mhas (m.sub θ) (g.sub θ)
 | .mget m g => .mget (m.sub θ) (g.sub θ)
 | .app f l => .app f (l.sub θ)
def GE.sub (θ : Nat → GE) : GE → GE
 | .s i => θ i
 | .nil => .nil
 | .one e => .one (e.sub θ)
 | .cat a b => my (a.sub θ) (b.sub θ)
 | .lit l n => .lit l n
 | .cut g a b => .cut (g.sub θ) (a.sub θ) (b.sub θ)
 | .enc e => .enc (e.sub θ)
 | .app f l => .app f (l.sub θ)
def AL.sub (θ : Nat → GE) : AL → AL
 | .nil => .nil
 | .i e l => .i (e.sub θ) (l.sub θ)
 | .g x l => .g (x.sub θ) (l.sub θ)
end
def gc (κ : K → K) (θ : Nat → GE) (A : List SA) : Nat → AV → AV
 | 0, _ => .top
 | n + 1, x => match x with
   | .bool b => .bool b
   | .int k n => .int k n
   | .str l n => .str l n
   | .nilPtr => .nilPtr
   | .nilSlice => .nilSlice
   | .nilMap => .nilMap
   | .nilFunc => .nilFunc
   | .nilIface => .nilIface
   | .esl => .esl
   | .ptr b o => .ptr (κ b) o
   | .slice b o l c e => .slice (κ b) o l c e
   | .map b => .map (κ b)
   | .func g x y => bc (af0 g) (.func g (shL (gc κ θ A n) x) (shL (gc κ θ A n) y)) .top
   | .iface t v => .iface t (gc κ θ A n v)
   | .agg l => .agg (shL (gc κ θ A n) l)
   | .tuple l => .tuple (shL (gc κ θ A n) l)
   | .sym k e _ => a86 k (e.sub θ) A
   | .gv (.str g _) => a85 (g.sub θ) A
   | .gv (.sl b es n _) => .gv (.sl (κ b) es (n.sub θ) A)
   | .gv (.ptr b es i o _) => .gv (.ptr (κ b) es (i.sub θ) o A)
   | .gv (.sr b o n _) => .gv (.sr (κ b) (o.sub θ) (n.sub θ) A)
   | .gv (.pr b o i _) => .gv (.pr (κ b) (o.sub θ) (i.sub θ) A)
   | _ => .top
def aja (θ : Nat → GE) (A : List SA) : GO → GO
 | .gh t ks n g => .gh t ks (n.sub θ) (g.sub θ)
 | .junk t => .junk t
 | .gmap m => .gmap (m.sub θ)
 | .lh k g => .lh k (g.sub θ)
 | .rh o n g => .rh (o.sub θ) (n.sub θ) (g.sub θ)
 | .rb o n g => .rb (o.sub θ) (n.sub θ) (g.sub θ)
 | .iter g p _ => .iter (g.sub θ) (p.sub θ) A
def wp (κ : K → K) (θ : Nat → GE) (A : List SA) : LO → LO
 | .cells t e fl fh l => .cells t e fl fh (shL (gc κ θ A 8) l)
 | .map es => .map (shP (gc κ θ A 8) es)
 | .win kb l => .win kb l
 | .gob o => .gob (aja θ A o)
def noA : List SA → Bool
 | [] => true
 | _ => false
def afg (f : AV → Bool) : List AV → Bool
 | [] => true
 | x :: l => bc (f x) (afg f l) false
def vc : Nat → AV → Bool
 | 0, _ => false
 | n + 1, x => match x with
   | .bool _ | .int _ _ | .str _ _ | .nilPtr | .nilSlice | .nilMap | .nilFunc | .nilIface | .esl | .ptr _ _ | .slice _ _ _ _ _ | .map _ | .top => true
   | .func g x y => bc (af0 g) (bc (afg (vc n) x) (afg (vc n) y) false) false
   | .iface _ v => vc n v
   | .agg l => afg (vc n) l
   | .tuple l => afg (vc n) l
   | .sym _ _ A => noA A
   | .gv (.str _ A) => noA A
   | .gv (.sl _ _ _ A) => noA A
   | .gv (.ptr _ _ _ _ A) => noA A
   | .gv (.sr _ _ _ A) => noA A
   | .gv (.pr _ _ _ A) => noA A
   | _ => false
def bga : List (AV × AV) → Bool
 | [] => true
 | x :: l => bc (vc 8 x.1) (bc (vc 8 x.2) (bga l) false) false
def ab3 : LO → Bool
 | .cells _ _ _ _ l => afg (vc 8) l
 | .map es => bga es
 | .win _ _ => false
 | .gob (.iter _ _ A) => noA A
 | .gob _ => true
end
theorem alx [Gv] {ρ : Env} {k : IntKind} {e : SE} {A : List SA} (hA : SAll Gv.σ A) {x : Value} : VRel ρ (a86 k e A) x ↔ x = .int k (e.eval Gv.σ) := by
 unfold a86
 split
 ·simp only [VRel, SE.eval]
 ·simp only [VRel]; exact ⟨fun h => h.2, fun h => ⟨hA, h⟩⟩
theorem alw [Gv] {ρ : Env} {g : GE} {A : List SA} (hA : SAll Gv.σ A) {x : Value} : VRel ρ (a85 g A) x ↔ x = .string (al (g.eval Gv.σ)) ∧ ax (g.eval Gv.σ) := by
 unfold a85
 split
 ·rename_i l n
  rw [aa]
  split
  ·rename_i h
   have h : n < 256 ^ l := by simpa [afu] using h
   simp only [VRel, GE.eval]
   rw [j4]
   exact ⟨fun q => ⟨q.2, gm _⟩, fun q => ⟨h, q.1⟩⟩
  ·simp only [VRel]; exact ⟨fun h => h.2, fun h => ⟨hA, h⟩⟩
 ·simp only [VRel, GE.eval]
  constructor
  ·rintro ⟨_, rfl⟩; exact ⟨rfl, fun x h => by cases h⟩
  ·rintro ⟨rfl, _⟩; exact ⟨by simp, rfl⟩
 ·simp only [VRel]; exact ⟨fun h => h.2, fun h => ⟨hA, h⟩⟩
theorem awh (σ : Nat → List Int) (op : Nat) (k : IntKind) (a b : SE) : (bai op k a b).eval σ = qr op k (a.eval σ) (b.eval σ) := by
 haveI : Gv := ⟨σ⟩
 unfold bai
 split
 ·simp only [SE.eval, qr]; exact fy _ _
 ·simp only [SE.eval, qr]; exact fy _ _
 ·simp only [SE.eval, qr]; exact fy _ _
 ·rw [dy]; rfl
 ·simp only [SE.eval, qr]; rfl
 ·simp only [SE.eval]
theorem a74 (σ : Nat → List Int) (g : GE) : (hdE g).eval σ = (g.eval σ).headD 0 := by
 unfold hdE
 split
 ·simp only [GE.eval, List.headD_cons]
 ·simp only [SE.eval, GE.eval]
 ·simp only [SE.eval, Int.toNat_zero]
  cases g.eval σ <;> rfl
section
variable (σ : Nat → List Int) (θ : Nat → GE)
mutual
theorem SE.sub_eval : ∀ e : SE, (e.sub θ).eval σ = e.eval (fun i => (θ i).eval σ)
 | .v i => by haveI : Gv := ⟨σ⟩; simp only [SE.sub, a74, SE.eval]
 | .c n => by haveI : Gv := ⟨σ⟩; simp only [SE.sub, SE.eval]
 | .bin op k a b => by haveI : Gv := ⟨σ⟩; simp only [SE.sub, awh, SE.eval, SE.sub_eval a, SE.sub_eval b]
 | .len g => by haveI : Gv := ⟨σ⟩; simp only [SE.sub, bv, SE.eval, GE.sub_eval g]
 | .rd g e => by haveI : Gv := ⟨σ⟩; simp only [SE.sub, SE.eval, GE.sub_eval g, SE.sub_eval e]
 | .dr g e => by haveI : Gv := ⟨σ⟩; simp only [SE.sub, SE.eval, GE.sub_eval g, SE.sub_eval e]
 | .dw g e => by haveI : Gv := ⟨σ⟩; simp only [SE.sub, SE.eval, GE.sub_eval g, SE.sub_eval e]
 | .eqg g h => by haveI : Gv := ⟨σ⟩; simp only [SE.sub, SE.eval, GE.sub_eval g, GE.sub_eval h]
 | .mhas g h => by haveI : Gv := ⟨σ⟩; simp only [SE.sub, SE.eval, GE.sub_eval g, GE.sub_eval h]
 | .mget g h => by haveI : Gv := ⟨σ⟩; simp only [SE.sub, SE.eval, GE.sub_eval g, GE.sub_eval h]
 | .app f l => by haveI : Gv := ⟨σ⟩; simp only [SE.sub, SE.eval, AL.sub_eval l]
theorem GE.sub_eval : ∀ g : GE, (g.sub θ).eval σ = g.eval (fun i => (θ i).eval σ)
 | .s i => by haveI : Gv := ⟨σ⟩; simp only [GE.sub, GE.eval]
 | .nil => by haveI : Gv := ⟨σ⟩; simp only [GE.sub, GE.eval]
 | .one e => by haveI : Gv := ⟨σ⟩; simp only [GE.sub, GE.eval, SE.sub_eval e]
 | .cat a b => by haveI : Gv := ⟨σ⟩; simp only [GE.sub, dm, GE.eval, GE.sub_eval a, GE.sub_eval b]
 | .lit l n => by haveI : Gv := ⟨σ⟩; simp only [GE.sub, GE.eval]
 | .cut g a b => by haveI : Gv := ⟨σ⟩; simp only [GE.sub, GE.eval, GE.sub_eval g, SE.sub_eval a, SE.sub_eval b]
 | .enc e => by haveI : Gv := ⟨σ⟩; simp only [GE.sub, GE.eval, SE.sub_eval e]
 | .app f l => by haveI : Gv := ⟨σ⟩; simp only [GE.sub, GE.eval, AL.sub_eval l]
theorem AL.sub_eval : ∀ l : AL, (l.sub θ).eval σ = l.eval (fun i => (θ i).eval σ)
 | .nil => by haveI : Gv := ⟨σ⟩; simp only [AL.sub, AL.eval]
 | .i e l => by haveI : Gv := ⟨σ⟩; simp only [AL.sub, AL.eval, SE.sub_eval e, AL.sub_eval l]
 | .g x l => by haveI : Gv := ⟨σ⟩; simp only [AL.sub, AL.eval, GE.sub_eval x, AL.sub_eval l]
end
end
@[reducible] noncomputable def GvS (σ : Nat → List Int) (θ : Nat → GE) : Gv := ⟨fun i => (θ i).eval σ⟩
section
variable {σ : Nat → List Int} {θ : Nat → GE} {κ : K → K} {ρ ρt : Env} {A : List SA}
theorem bfz {ρ ρ' : Env} {b b' : K} {o cap cap' : Nat} {ex : Option Nat} (h : ρ'.sz b' = ρ.sz b) (e : SlOk ρ b o cap cap' ex) : SlOk ρ' b' o cap cap' ex := by
 cases ex with
 | none => exact e
 | some es => simp only [SlOk] at e ⊢; rw [h]; exact e
def lr (ρ ρ' : Env) (k k' : K) : Prop := ∀ c, ρ k = some c → ρ' k' = some c ∧ ρ'.sz k' = ρ.sz k
theorem jr {A : List SA} (h : noA A = true) : A = [] := by cases A <;> first | rfl | cases h
theorem avm {f : AV → AV} {p : AV → Bool} (hf : ∀ x v, p x = true → @VRel ⟨σ⟩ ρ (f x) v → @VRel (GvS σ θ) ρt x v) : ∀ {l : List AV} {vs : List Value}, afg p l = true → @VRels ⟨σ⟩ ρ (shL f l) vs → @VRels (GvS σ θ) ρt l vs
 | [], _, _, h => by simp only [shL, VRels] at h ⊢; exact h
 | x :: l, _, hp, h => by
   haveI : Gv := ⟨σ⟩
   simp only [afg] at hp
   obtain ⟨p1, p2⟩ := bc_and.1 hp
   simp only [shL, VRels] at h ⊢
   obtain ⟨v, vs, e, h1, h2⟩ := h
   exact ⟨v, vs, e, hf _ _ p1 h1, avm hf p2 h2⟩
theorem fwd (hA : SAll σ A) (hk : ∀ k, lr ρ ρt (κ k) k) : ∀ n x v, vc n x = true → @VRel ⟨σ⟩ ρ (gc κ θ A n x) v → @VRel (GvS σ θ) ρt x v
 | 0, _, _, h, _ => by cases h
 | n + 1, x, v, ht, h => by
   have ih := fwd hA hk n
   have bca : ∀ {x y : Bool}, bc x y false = true ↔ x = true ∧ y = true := @bc_and ⟨σ⟩
   cases x <;> simp only [vc, zF] at ht <;> simp only [gc] at h <;> first
    | (simp only [VRel] at h ⊢; exact h)
    | (simp only [VRel]; done)
    | skip
   ·simp only [VRel] at h ⊢; obtain ⟨c, h1, h2⟩ := h; exact ⟨c, (hk _ _ h1).1, h2⟩
   ·simp only [VRel] at h ⊢; obtain ⟨c, cap', h1, h2, h3, h4⟩ := h; exact ⟨c, cap', (hk _ _ h1).1, h2, bfz (hk _ _ h1).2 h3, h4⟩
   ·simp only [VRel] at h ⊢; obtain ⟨c, h1, h2⟩ := h; exact ⟨c, (hk _ _ h1).1, h2⟩
   ·rename_i g x y
    obtain ⟨hg, ht⟩ := bca.1 ht
    obtain ⟨t1, t2⟩ := bca.1 ht
    rw [aa, if_pos hg] at h
    simp only [VRel] at h ⊢
    obtain ⟨f', x', y', h1, h0, h2, h3⟩ := h
    refine ⟨f', x', y', h1, ?_, avm (fun x v a b => ih x v a b) t1 h2, avm (fun x v a b => ih x v a b) t2 h3⟩
    cases g <;> first | exact h0 | cases hg
   ·simp only [VRel] at h ⊢; obtain ⟨v', h1, h2⟩ := h; exact ⟨v', h1, ih _ _ ht h2⟩
   ·simp only [VRel] at h ⊢; obtain ⟨ys, h1, h2⟩ := h; exact ⟨ys, h1, avm (fun x v a b => ih x v a b) ht h2⟩
   ·simp only [VRel] at h ⊢; obtain ⟨ys, h1, h2⟩ := h; exact ⟨ys, h1, avm (fun x v a b => ih x v a b) ht h2⟩
   ·rename_i k e A'
    have := jr ht; subst this
    have h := (@alx ⟨σ⟩ ρ k _ A hA v).1 h
    simp only [VRel]
    exact ⟨SAll.nil, h.trans (congrArg _ (SE.sub_eval σ θ e))⟩
   ·rename_i g
    cases g with
    | str g A' =>
      have := jr ht; subst this
      have h := (@alw ⟨σ⟩ ρ _ A hA v).1 h
      simp only [VRel]
      refine ⟨SAll.nil, ?_, ?_⟩
      ·rw [h.1]; exact congrArg _ (congrArg _ (GE.sub_eval σ θ g))
      ·have := h.2; rw [GE.sub_eval] at this; exact this
    | sl b es n A' =>
      have := jr ht; subst this
      simp only [VRel] at h ⊢
      obtain ⟨_, c, cap', h1, h2, h3, h4, h5⟩ := h
      rw [SE.sub_eval] at h2 h3 h5
      exact ⟨SAll.nil, c, cap', (hk _ _ h1).1, h2, h3, by rw [(hk _ _ h1).2]; exact h4, h5⟩
    | ptr b es i o A' =>
      have := jr ht; subst this
      simp only [VRel] at h ⊢
      obtain ⟨_, c, h1, h2, h3⟩ := h
      rw [SE.sub_eval] at h2 h3
      exact ⟨SAll.nil, c, (hk _ _ h1).1, h2, h3⟩
    | sr b o n A' =>
      have := jr ht; subst this
      simp only [VRel] at h ⊢
      obtain ⟨_, c, cap', h1, h2, h3, h5⟩ := h
      rw [SE.sub_eval] at h2 h3
      rw [SE.sub_eval, SE.sub_eval] at h5
      exact ⟨SAll.nil, c, cap', (hk _ _ h1).1, h2, h3, h5⟩
    | pr b o i A' =>
      have := jr ht; subst this
      simp only [VRel] at h ⊢
      obtain ⟨_, c, h1, h2, h3⟩ := h
      rw [SE.sub_eval] at h2
      rw [SE.sub_eval, SE.sub_eval] at h3
      exact ⟨SAll.nil, c, (hk _ _ h1).1, h2, h3⟩
theorem au5 {f : AV → AV} (hf : ∀ x v, @VRel (GvS σ θ) ρt x v → @VRel ⟨σ⟩ ρ (f x) v) : ∀ {l : List AV} {vs : List Value}, @VRels (GvS σ θ) ρt l vs → @VRels ⟨σ⟩ ρ (shL f l) vs
 | [], _, h => by simp only [shL, VRels] at h ⊢; exact h
 | x :: l, _, h => by
   simp only [shL, VRels] at h ⊢
   obtain ⟨v, vs, e, h1, h2⟩ := h
   exact ⟨v, vs, e, hf _ _ h1, au5 hf h2⟩
theorem bwd (hA : SAll σ A) (hk : ∀ k, lr ρt ρ k (κ k)) : ∀ n x v, @VRel (GvS σ θ) ρt x v → @VRel ⟨σ⟩ ρ (gc κ θ A n x) v
 | 0, _, _, _ => by simp only [gc, VRel]
 | n + 1, x, v, h => by
   have ih := bwd hA hk n
   cases x <;> simp only [gc] <;> first
    | (simp only [VRel] at h ⊢; exact h)
    | (simp only [VRel]; done)
    | skip
   ·simp only [VRel] at h ⊢; obtain ⟨c, h1, h2⟩ := h; exact ⟨c, (hk _ _ h1).1, h2⟩
   ·simp only [VRel] at h ⊢; obtain ⟨c, cap', h1, h2, h3, h4⟩ := h; exact ⟨c, cap', (hk _ _ h1).1, h2, bfz (hk _ _ h1).2 h3, h4⟩
   ·simp only [VRel] at h ⊢; obtain ⟨c, h1, h2⟩ := h; exact ⟨c, (hk _ _ h1).1, h2⟩
   ·rename_i g x y
    rw [aa]
    split
    ·rename_i hp
     simp only [VRel] at h ⊢
     obtain ⟨f', x', y', h1, h0, h2, h3⟩ := h
     refine ⟨f', x', y', h1, ?_, au5 ih h2, au5 ih h3⟩
     cases g <;> first | exact h0 | cases hp
    ·simp only [VRel]
   ·simp only [VRel] at h ⊢; obtain ⟨v', h1, h2⟩ := h; exact ⟨v', h1, ih _ _ h2⟩
   ·simp only [VRel] at h ⊢; obtain ⟨ys, h1, h2⟩ := h; exact ⟨ys, h1, au5 ih h2⟩
   ·simp only [VRel] at h ⊢; obtain ⟨ys, h1, h2⟩ := h; exact ⟨ys, h1, au5 ih h2⟩
   ·rename_i k e A'
    simp only [VRel] at h
    refine (@alx ⟨σ⟩ ρ k _ A hA v).2 ?_
    rw [h.2]
    exact congrArg _ (SE.sub_eval σ θ e).symm
   ·rename_i g
    cases g with
    | str g A' =>
      simp only [VRel] at h
      refine (@alw ⟨σ⟩ ρ _ A hA v).2 ⟨?_, ?_⟩
      ·rw [h.2.1]; exact congrArg _ (congrArg _ (GE.sub_eval σ θ g).symm)
      ·rw [GE.sub_eval]; exact h.2.2
    | sl b es n A' =>
      simp only [VRel] at h ⊢
      obtain ⟨_, c, cap', h1, h2, h3, h4, h5⟩ := h
      refine ⟨hA, c, cap', (hk _ _ h1).1, ?_, ?_, by rw [(hk _ _ h1).2]; exact h4, ?_⟩
      ·rw [SE.sub_eval]; exact h2
      ·rw [SE.sub_eval]; exact h3
      ·rw [SE.sub_eval]; exact h5
    | ptr b es i o A' =>
      simp only [VRel] at h ⊢
      obtain ⟨_, c, h1, h2, h3⟩ := h
      refine ⟨hA, c, (hk _ _ h1).1, ?_, ?_⟩
      ·rw [SE.sub_eval]; exact h2
      ·rw [SE.sub_eval]; exact h3
    | sr b o n A' =>
      simp only [VRel] at h ⊢
      obtain ⟨_, c, cap', h1, h2, h3, h5⟩ := h
      refine ⟨hA, c, cap', (hk _ _ h1).1, ?_, ?_, ?_⟩
      ·rw [SE.sub_eval]; exact h2
      ·rw [SE.sub_eval]; exact h3
      ·rw [SE.sub_eval, SE.sub_eval]; exact h5
    | pr b o i A' =>
      simp only [VRel] at h ⊢
      obtain ⟨_, c, h1, h2, h3⟩ := h
      refine ⟨hA, c, (hk _ _ h1).1, ?_, ?_⟩
      ·rw [SE.sub_eval]; exact h2
      ·rw [SE.sub_eval, SE.sub_eval]; exact h3
end
end Go.Ev
set_option maxRecDepth 100000
set_option linter.all false
namespace Go.Ev
section
variable {σ : Nat → List Int} {θ : Nat → GE} {κ : K → K} {ρ ρt : Env} {A : List SA}
theorem n8 (f : AV → AV) : ∀ l, (shL f l).length = l.length
 | [] => rfl
 | _ :: l => by simp [shL, n8 f l]
theorem ajo (f : AV → AV) : ∀ (l : List AV) (i : Nat) (h : i < l.length), (shL f l)[i]'(by rw [n8]; exact h) = f l[i]
 | [], _, h => by simp at h
 | _ :: l, 0, _ => rfl
 | _ :: l, i + 1, h => by simpa [shL] using ajo f l i (by simpa using h)
theorem aui {p : AV → Bool} : ∀ {l : List AV}, afg p l = true → ∀ (i : Nat) (h : i < l.length), p l[i] = true
 | [], _, i, h => by simp at h
 | x :: l, hp, i, h => by
   simp only [afg] at hp
   obtain ⟨p1, p2⟩ := (@bc_and ⟨fun _ => []⟩ _ _).1 hp
   cases i with
   | zero => exact p1
   | succ i => exact aui p2 i (by simpa using h)
theorem bpu (hA : SAll σ A) (hk : ∀ k, lr ρ ρt (κ k) k) : ∀ {es : List (AV × AV)} {l : List MapEntry}, bga es = true → @ERel ⟨σ⟩ ρ (shP (gc κ θ A 8) es) l → @ERel (GvS σ θ) ρt es l
 | [], _, _, h => h
 | e :: es, _, hp, ⟨m, ms, h1, h2, h3, h4⟩ => by
   simp only [bga] at hp
   obtain ⟨p1, hp⟩ := (@bc_and ⟨σ⟩ _ _).1 hp
   obtain ⟨p2, p3⟩ := (@bc_and ⟨σ⟩ _ _).1 hp
   exact ⟨m, ms, h1, fwd hA hk 8 _ _ p1 h2, fwd hA hk 8 _ _ p2 h3, bpu hA hk p3 h4⟩
theorem bn8 (hA : SAll σ A) (hk : ∀ k, lr ρt ρ k (κ k)) : ∀ {es : List (AV × AV)} {l : List MapEntry}, @ERel (GvS σ θ) ρt es l → @ERel ⟨σ⟩ ρ (shP (gc κ θ A 8) es) l
 | [], _, h => h
 | e :: es, _, ⟨m, ms, h1, h2, h3, h4⟩ => ⟨m, ms, h1, bwd hA hk 8 _ _ h2, bwd hA hk 8 _ _ h3, bn8 hA hk h4⟩
theorem al9 {o : GO} {x : Option Obj} (hA : SAll σ A) (h : ab3 (.gob o) = true) : @GORel ⟨σ⟩ (aja θ A o) x ↔ @GORel (GvS σ θ) o x := by
 cases o with
 | gh t ks n g =>
   simp only [aja, GORel]
   rw [SE.sub_eval]
   generalize hX : GE.eval σ (GE.sub θ g) = X
   rw [GE.sub_eval] at hX
   subst hX
   exact Iff.rfl
 | junk t => exact Iff.rfl
 | lh k g => exact Iff.rfl
 | rh o n g =>
   simp only [aja, GORel]
   rw [SE.sub_eval, SE.sub_eval]
   generalize hX : GE.eval σ (GE.sub θ g) = X
   rw [GE.sub_eval] at hX
   subst hX
   exact Iff.rfl
 | rb o n g =>
   simp only [aja, GORel]
   rw [SE.sub_eval, SE.sub_eval]
   generalize hX : GE.eval σ (GE.sub θ g) = X
   rw [GE.sub_eval] at hX
   subst hX
   exact Iff.rfl
 | gmap m =>
   simp only [aja, GORel]
   rw [GE.sub_eval]
   constructor
   ·rintro ⟨e, c, h1, h2⟩
    refine ⟨e, c, h1, ?_⟩
    revert h2
    generalize wh (GE.eval (fun i => GE.eval σ (θ i)) m) = l
    generalize e.toList = ms
    intro h2
    induction l generalizing ms with
    | nil => exact h2
    | cons x l ih => obtain ⟨a, b, q1, q2, q3, q4, q5⟩ := h2; exact ⟨a, b, q1, q2, q3, q4, ih _ q5⟩
   ·rintro ⟨e, c, h1, h2⟩
    refine ⟨e, c, h1, ?_⟩
    revert h2
    generalize wh (GE.eval (fun i => GE.eval σ (θ i)) m) = l
    generalize e.toList = ms
    intro h2
    induction l generalizing ms with
    | nil => exact h2
    | cons x l ih => obtain ⟨a, b, q1, q2, q3, q4, q5⟩ := h2; exact ⟨a, b, q1, q2, q3, q4, ih _ q5⟩
 | iter g p A' =>
   have h : noA A' = true := h
   have := jr h; subst this
   simp only [aja, GORel]
   rw [SE.sub_eval, GE.sub_eval]
   exact ⟨fun h => ⟨SAll.nil, h.2⟩, fun h => ⟨hA, h.2⟩⟩
theorem by9 (hA : SAll σ A) (hk : ∀ k, lr ρ ρt (κ k) k) {o : LO} (ht : ab3 o = true) {x : Option Obj} (h : @ORel ⟨σ⟩ ρ (eu (wp κ θ A o)) x) : @ORel (GvS σ θ) ρt (eu o) x := by
 cases o with
 | win => cases ht
 | gob o => exact (al9 hA ht).1 h
 | map es =>
   obtain ⟨a, b, h1, h2⟩ := h
   exact ⟨a, b, h1, bpu hA hk ht h2⟩
 | cells t e fl fh l =>
   haveI : Gv := ⟨σ⟩
   obtain ⟨arr, fz, h1, h2, h3, h4, h5, h6⟩ := h
   have hl : br (shL (gc κ θ A 8) l) = l.length := by rw [ba, n8]
   have hl0 : br l = l.length := ba l
   rw [hl] at h2 h3
   rw [dx, hl] at h4
   refine ⟨arr, fz, h1, by rw [hl0]; exact h2, fun q => by rw [hl0]; exact h3 q, by rw [dx, hl0]; exact h4, h5, ?_⟩
   intro i hi
   rw [hl0] at hi
   obtain ⟨v, q1, q2⟩ := h6 i (by rw [hl]; exact hi)
   refine ⟨v, q1, ?_⟩
   have hl' := n8 (gc κ θ A 8) l
   rw [hl, iy (shL (gc κ θ A 8) l) 0 _ i (by omega) (by omega), dif_pos ⟨Nat.zero_le _, by omega⟩] at q2
   rw [hl0, iy l 0 _ i (by omega) (by omega), dif_pos ⟨Nat.zero_le _, by omega⟩]
   have := ajo (gc κ θ A 8) l i hi
   simp only [Nat.sub_zero] at q2 ⊢
   rw [this] at q2
   exact fwd hA hk 8 _ _ (aui ht i hi) q2
theorem bn7 (hA : SAll σ A) (hk : ∀ k, lr ρt ρ k (κ k)) {o : LO} (ht : ab3 o = true) {x : Option Obj} (h : @ORel (GvS σ θ) ρt (eu o) x) : @ORel ⟨σ⟩ ρ (eu (wp κ θ A o)) x := by
 cases o with
 | win => cases ht
 | gob o => exact (al9 hA ht).2 h
 | map es =>
   obtain ⟨a, b, h1, h2⟩ := h
   exact ⟨a, b, h1, bn8 hA hk h2⟩
 | cells t e fl fh l =>
   haveI : Gv := ⟨σ⟩
   obtain ⟨arr, fz, h1, h2, h3, h4, h5, h6⟩ := h
   have hl : br (shL (gc κ θ A 8) l) = l.length := by rw [ba, n8]
   have hl0 : br l = l.length := ba l
   rw [hl0] at h2 h3
   rw [dx, hl0] at h4
   refine ⟨arr, fz, h1, by rw [hl]; exact h2, fun q => by rw [hl]; exact h3 q, by rw [dx, hl]; exact h4, h5, ?_⟩
   intro i hi
   rw [hl] at hi
   obtain ⟨v, q1, q2⟩ := h6 i (by rw [hl0]; exact hi)
   refine ⟨v, q1, ?_⟩
   have hl' := n8 (gc κ θ A 8) l
   rw [hl0, iy l 0 _ i (by omega) (by omega), dif_pos ⟨Nat.zero_le _, by omega⟩] at q2
   rw [hl, iy (shL (gc κ θ A 8) l) 0 _ i (by omega) (by omega), dif_pos ⟨Nat.zero_le _, by omega⟩]
   have := ajo (gc κ θ A 8) l i hi
   simp only [Nat.sub_zero] at q2 ⊢
   rw [this]
   exact bwd hA hk 8 _ _ q2
theorem abj {G G' : Gv} {ρ ρ' : Env} : ∀ {l : List AV} {xs : List Value}, asn l = true → @VRels G ρ l xs → @VRels G' ρ' l xs
 | [], _, _, h => by simp only [VRels] at h ⊢; exact h
 | v :: l, _, hf, h => by
   simp only [asn] at hf
   obtain ⟨f1, f2⟩ := (@bc_and G _ _).1 hf
   simp only [VRels] at h ⊢
   obtain ⟨x, xs, e, h1, h2⟩ := h
   refine ⟨x, xs, e, ?_, abj f2 h2⟩
   cases v <;> first | (cases f1; done) | (simp only [VRel] at h1 ⊢; exact h1)
theorem azj {G G' : Gv} {ρ ρ' : Env} {g : Nat} {cs : List AV} {x : Option Obj} (hm : LE.mk g cs ∈ laidL) (h : @ORel G ρ (.ro (Nat.succ g) (br cs) (me cs 0 (jk (br cs)))) x) :
  @ORel G' ρ' (.ro (Nat.succ g) (br cs) (me cs 0 (jk (br cs)))) x := by
 obtain ⟨arr, t', fz, h1, h2, h3, h4, h5⟩ := h
 obtain ⟨f1, f2, f3⟩ := @jd G _ (@ic G) g cs hm
 have hv := h5 g cs rfl hm ρ
 have hv' : ∀ ρ, @VRels G' ρ cs arr.toList := fun ρ => abj f2 hv
 letI := G'
 refine ⟨arr, t', fz, h1, h2, h3, fun i hi => ?_, fun g' cs' e hm' ρ'' => ?_⟩
 ·obtain ⟨v, s1, s2⟩ := sm (hv' ρ') f3 i (by rw [ba] at hi; exact hi)
  rw [ba]
  exact ⟨v, by simpa using s1, s2⟩
 ·exact abj (@jd G _ (@ic G) g' cs' hm').2.1 (h5 g' cs' e hm' ρ)
end
noncomputable section
def gf : List (Nat × Nat) → Nat → Option Nat
 | [], _ => none
 | p :: l, k => bc (Nat.beq p.1 k) (some p.2) (gf l k)
def farK : K := K.of 65535
def fp (L : List (Nat × Nat)) (nxi nx : Nat) (k : K) : K := bc (Nat.ble k.num 255) k (bc (Nat.blt k.num nxi) (match gf L k.num with
 | some m => K.of m
 | none => farK) (bc (Nat.ble (Nat.add (Nat.sub k.num nxi) nx) 65534) (K.of (Nat.add (Nat.sub k.num nxi) nx)) farK))
def b7 (κ : K → K) (θ : Nat → GE) (A : List SA) : List HO → List HO
 | [] => []
 | .mk k o :: l => .mk (κ (K.of k)).num (wp κ θ A o) :: b7 κ θ A l
def pd : List (Nat × Nat) → Bool
 | [] => true
 | p :: l => bc (ars (fun q => akn (Nat.beq q p.2)) (l.map (·.2))) (pd l) false
def ad3 (nx : Nat) : List (Nat × Nat) → Bool
 | [] => true
 | p :: l => bc (Nat.ble 256 p.2 && Nat.blt p.2 nx) (ad3 nx l) false
def al4 (L : List (Nat × Nat)) (nxi : Nat) : List HO → Bool
 | [] => true
 | .mk k o :: l => bc (Nat.ble 256 k && Nat.blt k nxi && ab3 o && (gf L k).isSome) (al4 L nxi l) false
def alz (L : List (Nat × Nat)) (nxi nxo : Nat) : List HO → Bool
 | [] => true
 | .mk k o :: l => bc (Nat.ble 256 k && Nat.blt k nxo && ab3 o && ((gf L k).isSome && Nat.blt k nxi || Nat.ble nxi k)) (alz L nxi nxo l) false
end
end Go.Ev
set_option maxRecDepth 100000
set_option linter.all false
namespace Go.Ev
section
variable {σ : Nat → List Int} {θ : Nat → GE} {A0 : List SA} {KL : List (Nat × Nat)} {nxi nxo nx : Nat} {Li Lo : List HO} {ρ : Env} {w : World}
theorem bcT {x y : Bool} : bc x y false = true ↔ x = true ∧ y = true := @bc_and ⟨fun _ => []⟩ x y
theorem di {x : Nat} (h : x < 65536) : (K.of x).num = x := @K.of_num' ⟨fun _ => []⟩ x h
theorem zl : ∀ {L : List (Nat × Nat)}, ad3 nx L = true → ∀ k m, gf L k = some m → 256 ≤ m ∧ m < nx
 | [], _, _, _, h => by cases h
 | p :: l, h, k, m, hf => by
   simp only [ad3] at h
   obtain ⟨h1, h2⟩ := bcT.1 h
   simp only [zU] at h1
   simp only [gf, aa] at hf
   split at hf
   ·cases hf; exact ⟨zE h1.1, zE h1.2⟩
   ·exact zl h2 k m hf
theorem asl : ∀ {L : List (Nat × Nat)} {k m : Nat}, gf L k = some m → m ∈ L.map (·.2)
 | [], _, _, h => by cases h
 | p :: l, k, m, hf => by
   simp only [gf, aa] at hf
   split at hf
   ·cases hf; simp
   ·exact zA _ (asl hf)
theorem art {p : Nat → Bool} : ∀ {l : List Nat}, ars p l = true → ∀ x ∈ l, p x = true
 | [], _, _, h => by cases h
 | y :: l, h, x, hx => by
   simp only [ars] at h
   obtain ⟨h1, h2⟩ := bcT.1 h
   rcases List.mem_cons.1 hx with rfl | e
   ·exact h1
   ·exact art h2 x e
theorem aii : ∀ {L : List (Nat × Nat)}, pd L = true → ∀ k k' m, gf L k = some m → gf L k' = some m → k = k'
 | [], _, _, _, _, h, _ => by cases h
 | p :: l, h, k, k', m, h1, h2 => by
   simp only [pd] at h
   obtain ⟨d1, d2⟩ := bcT.1 h
   have ne : ∀ q, gf l q = some p.2 → False := by
    intro q hq
    have := art d1 _ (asl hq)
    have : akn (Nat.beq p.2 p.2) = true := this
    rw [Nat.beq_refl] at this
    cases this
   simp only [gf, aa] at h1 h2
   split at h1
   ·rename_i e1
    cases h1
    split at h2
    ·rename_i e2; rw [← zW e1, ← zW e2]
    ·exact (ne _ h2).elim
   ·split at h2
    ·cases h2; exact (ne _ h1).elim
    ·exact aii d2 k k' m h1 h2
theorem afx : ∀ {L : List HO}, al4 KL nxi L = true → ∀ k o, HO.mk k o ∈ L → 256 ≤ k ∧ k < nxi ∧ ab3 o = true ∧ ∃ m, gf KL k = some m
 | [], _, _, _, h => by cases h
 | .mk k o :: l, h, k', o', hm => by
   simp only [al4] at h
   obtain ⟨h1, h2⟩ := bcT.1 h
   simp only [zU] at h1
   rcases List.mem_cons.1 hm with e | e
   ·injection e with e1 e2; subst e1 e2
    exact ⟨zE h1.1.1.1, zE h1.1.1.2, h1.1.2, Option.isSome_iff_exists.1 h1.2⟩
   ·exact afx h2 k' o' e
theorem an4 : ∀ {L : List HO}, alz KL nxi nxo L = true → ∀ k o, HO.mk k o ∈ L → 256 ≤ k ∧ k < nxo ∧ ab3 o = true ∧ ((∃ m, gf KL k = some m) ∧ k < nxi ∨ nxi ≤ k)
 | [], _, _, _, h => by cases h
 | .mk k o :: l, h, k', o', hm => by
   simp only [alz] at h
   obtain ⟨h1, h2⟩ := bcT.1 h
   simp only [zU, Bool.or_eq_true] at h1
   rcases List.mem_cons.1 hm with e | e
   ·injection e with e1 e2; subst e1 e2
    exact ⟨zE h1.1.1.1, zE h1.1.1.2, h1.1.2, h1.2.imp (fun q => ⟨Option.isSome_iff_exists.1 q.1, zE q.2⟩) zE⟩
   ·exact an4 h2 k' o' e
theorem a4v {k : K} (h : k.num ≤ 255) : fp KL nxi nx k = k := by
 unfold fp; rw [aa, if_pos (Nat.ble_eq_true_of_le h)]
theorem alq {k : K} {m : Nat} (h : 256 ≤ k.num) (h1 : k.num < nxi) (hf : gf KL k.num = some m) : fp KL nxi nx k = K.of m := by
 unfold fp
 rw [aa, if_neg (fun q => by have := zE q; omega), aa, if_pos (by simpa using h1), hf]
theorem xy {k : K} (h : 256 ≤ k.num) (h1 : nxi ≤ k.num) : fp KL nxi nx k = if k.num - nxi + nx ≤ 65534 then K.of (k.num - nxi + nx) else farK := by
 unfold fp
 rw [aa, if_neg (fun q => by have := zE q; omega), aa, if_neg (fun q => by have : k.num < nxi := zE q; omega), aa]
 by_cases e : k.num - nxi + nx ≤ 65534
 ·rw [if_pos (show Nat.ble (Nat.add (Nat.sub k.num nxi) nx) 65534 = true from Nat.ble_eq_true_of_le e), if_pos e]; rfl
 ·rw [if_neg (show ¬ Nat.ble (Nat.add (Nat.sub k.num nxi) nx) 65534 = true from fun q => e (zE q)), if_neg e]
theorem bd3 : farK.num = 65535 := di (by omega)
structure Maps (κ : K → K) (L : List HO) : Prop where
 lo : ∀ a o, HO.mk a o ∈ L → 256 ≤ a ∧ a < 65536 ∧ ab3 o = true
 hi : ∀ a o, HO.mk a o ∈ L → 256 ≤ (κ (K.of a)).num
 inj : ∀ a o b p, HO.mk a o ∈ L → HO.mk b p ∈ L → κ (K.of a) = κ (K.of b) → a = b
theorem Maps.tail {κ : K → K} {x : HO} {L : List HO} (h : Maps κ (x :: L)) : Maps κ L :=
 ⟨fun a o m => h.lo a o (zA _ m), fun a o m => h.hi a o (zA _ m), fun a o b p m n => h.inj a o b p (zA _ m) (zA _ n)⟩
theorem aob (k : K) : K.of k.num = k := @K.of_of ⟨fun _ => []⟩ k
theorem avy {κ : K → K} : ∀ {L : List HO}, Maps κ L → ∀ a o, HO.mk a o ∈ L → ∃ p, HO.mk a p ∈ L ∧ ah (K.of a) (aj L) = eu p ∧ ah (κ (K.of a)) (aj (b7 κ θ A0 L)) = eu (wp κ θ A0 p)
 | [], _, _, _, h => by cases h
 | .mk b q :: L, hM, a, o, hm => by
   simp only [aj, b7]
   by_cases e : a = b
   ·subst e
    exact ⟨q, by simp, by rw [ak], by rw [aob, ak]⟩
   ·have hm' : HO.mk a o ∈ L := by
     rcases List.mem_cons.1 hm with x | x
     ·injection x with x1 x2; exact absurd x1 e
     ·exact x
    obtain ⟨p, p1, p2, p3⟩ := avy hM.tail a o hm'
    refine ⟨p, zA _ p1, ?_, ?_⟩
    ·rw [av ?_, p2]
     intro x
     have := congrArg K.num x
     rw [di (hM.lo a o hm).2.1, di (hM.lo b q (by simp)).2.1] at this
     exact e this
    ·rw [aob, av ?_, p3]
     intro x
     exact e (hM.inj a o b q hm (by simp) x)
theorem an2 {κ : K → K} {k : K} (hk : k.num ≤ 255) : ∀ {L : List HO}, Maps κ L → ah k (aj (b7 κ θ A0 L)) = ah k (ma laidL) ∧ ah k (aj L) = ah k (ma laidL)
 | [], _ => ⟨rfl, rfl⟩
 | .mk b q :: L, hM => by
   obtain ⟨h1, h2⟩ := an2 hk hM.tail
   simp only [aj, b7]
   constructor
   ·rw [aob, av ?_, h1]
    intro x
    have := hM.hi b q (by simp)
    rw [← x] at this; omega
   ·rw [av ?_, h2]
    intro x
    have := (hM.lo b q (by simp))
    rw [x, di this.2.1] at hk; omega
theorem atj {κ : K → K} {k : K} : ∀ {L : List HO}, Maps κ L → ah k (aj (b7 κ θ A0 L)) ≠ .none → (∃ a o, HO.mk a o ∈ L ∧ k = κ (K.of a)) ∨ ah k (ma laidL) ≠ .none
 | [], _, h => .inr h
 | .mk b q :: L, hM, h => by
   simp only [aj, b7, aob] at h
   by_cases e : k = κ (K.of b)
   ·exact .inl ⟨b, q, by simp, e⟩
   ·rw [av e] at h
    rcases atj hM.tail h with ⟨a, o, m, x⟩ | x
    ·exact .inl ⟨a, o, zA _ m, x⟩
    ·exact .inr x
theorem ow {k : K} (h : ah k (ma laidL) ≠ .none) : ∃ g cs, LE.mk g cs ∈ laidL ∧ g ≤ 255 ∧ k = K.of g ∧ k.num ≤ 255 ∧ ah k (ma laidL) = .ro (Nat.succ g) (br cs) (me cs 0 (jk (br cs))) := by
 letI : Gv := ⟨fun _ => []⟩
 obtain ⟨g, cs, h1, h2, h3, _⟩ := ov k laidL h
 have := (jd _ ic g cs h1).1
 exact ⟨g, cs, h1, this, h2, by rw [h2, di (by omega)]; exact this, h3⟩
theorem ac2 {k : K} {L : List HO} (h : ah k (aj L) ≠ .none) : (∃ a o, HO.mk a o ∈ L ∧ k = K.of a) ∨ ah k (ma laidL) ≠ .none := by
 letI : Gv := ⟨fun _ => []⟩
 induction L with
 | nil => exact .inr h
 | cons x L ih =>
   obtain ⟨b, q⟩ := x
   simp only [aj] at h
   by_cases e : k = K.of b
   ·exact .inl ⟨b, q, by simp, e⟩
   ·rw [av e] at h
    rcases ih h with ⟨a, o, m, x⟩ | x
    ·exact .inl ⟨a, o, zA _ m, x⟩
    ·exact .inr x
theorem wq (κ : K → K) (θ : Nat → GE) (A : List SA) (o : LO) : (eu (wp κ θ A o)).isRo = (eu o).isRo := by
 cases o with
 | gob g => cases g <;> rfl
 | _ => rfl
theorem ai2 (o : LO) : eu o ≠ .none := @ats ⟨fun _ => []⟩ o
set_option maxHeartbeats 1000000 in
theorem as5 (k : K) : bq (ah k (ma laidL)) = none := by
 by_cases e : ah k (ma laidL) = .none
 ·rw [e]; rfl
 ·obtain ⟨g, cs, _, _, _, _, h⟩ := ow e
  rw [h]; rfl
theorem ajb {κ : K → K} {θ : Nat → GE} {A : List SA} {p : LO} (h : bq (eu p) ≠ none) : ∃ kd g, bq (eu p) = some (kd, g) ∧ bq (eu (wp κ θ A p)) = some (kd, g.sub θ) := by
 cases p with
 | gob o => cases o <;> first | exact absurd rfl h | exact ⟨_, _, rfl, rfl⟩
 | _ => exact absurd rfl h
theorem ajc {κ : K → K} {θ : Nat → GE} {A : List SA} {p : LO} (h : bq (eu p) = none) : bq (eu (wp κ θ A p)) = none := by
 cases p with
 | gob o => cases o <;> first | rfl | cases h
 | _ => rfl
theorem a98 (hA : SAll σ A0) (b1 : 256 ≤ nxi) (b2 : nxi ≤ nxo) (b3 : nxo ≤ 65535) (b4 : 256 ≤ nx) (b5 : nx + (nxo - nxi) ≤ 65535)
  (hd : pd KL = true) (hr : ad3 nx KL = true) (hold : al4 KL nxi Li = true) (hnew : alz KL nxi nxo Lo = true)
  (hg : @GRel ρ) (hw : @WRel ⟨σ⟩ ρ (bo (b7 (fp KL nxi nx) θ A0 Li) nx) w) (hc : @Clean ρ (bo (b7 (fp KL nxi nx) θ A0 Li) nx)) :
  ∃ ρt, @GRel ρt ∧ @WRel (GvS σ θ) ρt (bo Li nxi) w ∧ @Clean ρt (bo Li nxi) ∧ (∀ k, lr ρ ρt (fp KL nxi nx k) k) ∧
   ∀ ρ1 w1, @Adv (GvS σ θ) ρt (bo Li nxi) w ρ1 (bo Lo nxo) w1 → ∃ ρ', @Adv ⟨σ⟩ ρ (bo (b7 (fp KL nxi nx) θ A0 Li) nx) w ρ' (bo (b7 (fp KL nxi nx) θ A0 Lo) (nx + (nxo - nxi))) w1 ∧ ∀ k, lr ρ1 ρ' k (fp KL nxi nx k) := by
 obtain ⟨wi, wd, wl, wg⟩ := hw
 generalize hκ : fp KL nxi nx = κ at *
 have n1 : (bo (b7 κ θ A0 Li) nx).nx.num = nx := di (by omega)
 have n2 : (bo Li nxi).nx.num = nxi := di (by omega)
 have n3 : (bo Lo nxo).nx.num = nxo := di (by omega)
 have n4 : (bo (b7 κ θ A0 Lo) (nx + (nxo - nxi))).nx.num = nx + (nxo - nxi) := di (by omega)
 have hc' : ∀ k : K, nx ≤ k.num → ρ k = none := fun k hk => hc k (by rw [n1]; exact hk)
 have kold : ∀ a o, HO.mk a o ∈ Li → ∃ m, κ (K.of a) = K.of m ∧ 256 ≤ m ∧ m < nx ∧ gf KL a = some m ∧ a < nxi := by
  intro a o hm
  obtain ⟨a1, a2, a3, m, hf⟩ := afx hold a o hm
  obtain ⟨m1, m2⟩ := zl hr a m hf
  have e : (K.of a).num = a := di (by omega)
  exact ⟨m, by rw [← hκ]; exact alq (by omega) (by omega) (by rw [e]; exact hf), m1, m2, hf, a2⟩
 have mapsI : Maps κ Li := by
  refine ⟨fun a o hm => ?_, fun a o hm => ?_, fun a o b p h1 h2 e => ?_⟩
  ·obtain ⟨a1, a2, a3, _⟩ := afx hold a o hm; exact ⟨a1, by omega, a3⟩
  ·obtain ⟨m, e, m1, m2, _⟩ := kold a o hm; rw [e, di (by omega)]; exact m1
  ·obtain ⟨m, e1, m1, m2, f1, _⟩ := kold a o h1
   obtain ⟨m', e2, m1', m2', f2, _⟩ := kold b p h2
   rw [e1, e2] at e
   have := congrArg K.num e
   rw [di (by omega), di (by omega)] at this
   subst this
   exact aii hd a b m f1 f2
 have knew : ∀ a o, HO.mk a o ∈ Lo → a < nxo ∧ 256 ≤ a ∧ ((∃ m, κ (K.of a) = K.of m ∧ 256 ≤ m ∧ m < nx ∧ gf KL a = some m ∧ a < nxi) ∨ (nxi ≤ a ∧ κ (K.of a) = K.of (a - nxi + nx))) := by
  intro a o hm
  obtain ⟨a1, a2, a3, h⟩ := an4 hnew a o hm
  have e : (K.of a).num = a := di (by omega)
  refine ⟨a2, a1, ?_⟩
  rcases h with ⟨⟨m, hf⟩, hlt⟩ | h
  ·obtain ⟨m1, m2⟩ := zl hr a m hf
   exact .inl ⟨m, by rw [← hκ]; exact alq (by omega) (by omega) (by rw [e]; exact hf), m1, m2, hf, hlt⟩
  ·refine .inr ⟨h, ?_⟩
   rw [← hκ, xy (by omega) (by omega), e, if_pos (by omega)]
 have mapsO : Maps κ Lo := by
  refine ⟨fun a o hm => ?_, fun a o hm => ?_, fun a o b p h1 h2 e => ?_⟩
  ·obtain ⟨a1, a2, a3, _⟩ := an4 hnew a o hm; exact ⟨a1, by omega, a3⟩
  ·obtain ⟨q1, q2, ⟨m, e, m1, m2, _⟩ | ⟨q, e⟩⟩ := knew a o hm
   ·rw [e, di (by omega)]; exact m1
   ·rw [e, di (by omega)]; omega
  ·obtain ⟨q1, q2, hq⟩ := knew a o h1
   obtain ⟨r1, r2, hr'⟩ := knew b p h2
   rcases hq with ⟨m, e1, m1, m2, f1, _⟩ | ⟨qa, e1⟩ <;> rcases hr' with ⟨m', e2, m1', m2', f2, _⟩ | ⟨qb, e2⟩ <;> rw [e1, e2] at e <;> have := congrArg K.num e <;> rw [di (by omega), di (by omega)] at this
   ·subst this; exact aii hd a b m f1 f2
   ·omega
   ·omega
   ·omega
 have klow : ∀ k : K, k.num ≤ 255 → κ k = k := fun k hk => by rw [← hκ]; exact a4v hk
 let ρt : Env := { blk := fun k => if k.num < nxi then ρ (κ k) else none, sz := fun k => ρ.sz (κ k), ft := fun k => ρ.ft (κ k) }
 have et : ∀ k : K, ρt k = if k.num < nxi then ρ (κ k) else none := fun _ => rfl
 have st : ∀ k : K, ρt.sz k = ρ.sz (κ k) := fun _ => rfl
 have kto : ∀ k, lr ρ ρt (κ k) k := by
  intro k c hk
  rw [et, st]
  by_cases h : k.num < nxi
  ·rw [if_pos h]; exact ⟨hk, rfl⟩
  ·exfalso
   rw [← hκ, xy (by omega) (by omega)] at hk
   split at hk
   ·rw [hc' _ (by rw [di (by omega)]; omega)] at hk; cases hk
   ·rw [hc' _ (by rw [bd3]; omega)] at hk; cases hk
 have inPlace : ∀ k, ah k (aj Li) ≠ .none → k.num < nxi ∧ ah (κ k) (aj (b7 κ θ A0 Li)) ≠ .none ∧
   ((∃ a p, HO.mk a p ∈ Li ∧ k = K.of a ∧ ah k (aj Li) = eu p ∧ ah (κ k) (aj (b7 κ θ A0 Li)) = eu (wp κ θ A0 p)) ∨
    (k.num ≤ 255 ∧ κ k = k ∧ ah k (aj Li) = ah k (ma laidL) ∧ ah k (aj (b7 κ θ A0 Li)) = ah k (ma laidL) ∧ ah k (ma laidL) ≠ .none)) := by
  intro k hk
  by_cases hl : ∃ a o, HO.mk a o ∈ Li ∧ k = K.of a
  ·obtain ⟨a, o, hm, rfl⟩ := hl
   obtain ⟨p, p1, p2, p3⟩ := avy (θ := θ) (A0 := A0) mapsI a o hm
   obtain ⟨a1, a2, _⟩ := afx hold a o hm
   exact ⟨by rw [di (by omega)]; exact a2, by rw [p3]; exact ai2 _, .inl ⟨a, p, p1, rfl, p2, p3⟩⟩
  ·rcases ac2 hk with h | h
   ·exact absurd h hl
   ·obtain ⟨g, cs, _, g1, g2, g3, _⟩ := ow h
    obtain ⟨m1, m2⟩ := an2 (θ := θ) (A0 := A0) (κ := κ) g3 mapsI
    have e := klow k g3
    exact ⟨by omega, by rw [e, m1]; exact h, .inr ⟨g3, e, m2, m1, h⟩⟩
 have kinj : ∀ k l, ah k (aj Li) ≠ .none → ah l (aj Li) ≠ .none → κ k = κ l → k = l := by
  intro k l hk hl e
  obtain ⟨_, _, hk'⟩ := inPlace k hk
  obtain ⟨_, _, hl'⟩ := inPlace l hl
  rcases hk' with ⟨a, p, pm, rfl, _⟩ | ⟨k1, k2, _⟩ <;> rcases hl' with ⟨b, q, qm, rfl, _⟩ | ⟨l1, l2, _⟩
  ·rw [mapsI.inj a p b q pm qm e]
  ·have := mapsI.hi a p pm; rw [e, l2] at this; omega
  ·have := mapsI.hi b q qm; rw [← e, k2] at this; omega
  ·rw [← k2, ← l2, e]
 have ghI : ∀ k, bq (ah k (aj Li)) ≠ none → ∃ kd g, bq (ah k (aj Li)) = some (kd, g) ∧ bq (ah (κ k) (aj (b7 κ θ A0 Li))) = some (kd, g.sub θ) := by
  intro k hk
  obtain ⟨k1, k2, k3⟩ := inPlace k (bu hk)
  rcases k3 with ⟨a, p, pm, rfl, p1, p2⟩ | ⟨q1, q2, q3, q4, q5⟩
  ·rw [p1] at hk ⊢
   rw [p2]
   exact ajb hk
  ·rw [q3, as5] at hk; exact absurd rfl hk
 have hwt : @WRel (GvS σ θ) ρt (bo Li nxi) w := by
  refine @WRel.mk (GvS σ θ) _ _ _ ?_ ?_ ?_ ?_
  ·intro k l hk hl e
   obtain ⟨k1, k2, _⟩ := inPlace k hk
   obtain ⟨l1, l2, _⟩ := inPlace l hl
   rw [et, et, if_pos k1, if_pos l1] at e
   have roI : ∀ k, ah k (aj Li) ≠ .none → (ah (κ k) (aj (b7 κ θ A0 Li))).isRo = (ah k (aj Li)).isRo := by
    intro k hk
    obtain ⟨_, _, k3⟩ := inPlace k hk
    rcases k3 with ⟨a, p, pm, rfl, p1, p2⟩ | ⟨q1, q2, q3, q4, q5⟩
    ·rw [p1, p2, wq κ θ A0]
    ·rw [q2, q3, q4]
   rcases wi _ _ k2 l2 e with q | ⟨q, r⟩
   ·exact .inl (kinj k l hk hl q)
   ·exact .inr ⟨(roI k hk).symm.trans q, (roI l hl).symm.trans r⟩
  ·intro k hk
   obtain ⟨k1, k2, k3⟩ := inPlace k hk
   obtain ⟨c, hcc, ho⟩ := wd _ k2
   refine ⟨c, by rw [et, if_pos k1]; exact hcc, ?_⟩
   rcases k3 with ⟨a, p, pm, rfl, p1, p2⟩ | ⟨q1, q2, q3, q4, q5⟩
   ·have ho : @ORel ⟨σ⟩ ρ (ah (κ (K.of a)) (aj (b7 κ θ A0 Li))) (w.heap[c]?) := ho
    rw [p2] at ho
    show @ORel (GvS σ θ) ρt (ah (K.of a) (aj Li)) _
    rw [p1]
    exact by9 hA kto (mapsI.lo a p pm).2.2 ho
   ·have ho : @ORel ⟨σ⟩ ρ (ah (κ k) (aj (b7 κ θ A0 Li))) (w.heap[c]?) := ho
    rw [q2, q4] at ho
    show @ORel (GvS σ θ) ρt (ah k (aj Li)) _
    obtain ⟨g, cs, g0, g1, g2, g3, g4⟩ := ow q5
    rw [q3]
    rw [g4] at ho ⊢
    exact azj g0 ho
  ·intro k c arr t fz hk hcc hx
   obtain ⟨k1, k2, _⟩ := inPlace k hk
   rw [et, if_pos k1] at hcc
   rw [st]
   exact wl (κ k) c arr t fz k2 hcc hx
  ·intro k kd g hk
   have hk : bq (ah k (aj Li)) = some (kd, g) := hk
   obtain ⟨kd', g', e1, e2⟩ := ghI k (q9 hk)
   rw [hk] at e1
   injection e1 with e1
   injection e1 with e1 e1'
   subst e1 e1'
   obtain ⟨qroot, qrel, qlt, qsep, qdis⟩ := wg (κ k) kd (g.sub θ) e2
   obtain ⟨k1, k2, _⟩ := inPlace k (bu (q9 hk))
   refine @GhAt.mk (GvS σ θ) _ _ _ _ _ _ ?_ ?_ qlt ?_ ?_
   ·intro c hcc; rw [et, if_pos k1] at hcc; exact qroot c hcc
   ·intro c hcc
    rw [et, if_pos k1] at hcc
    have := qrel c hcc
    rw [GE.sub_eval] at this
    exact this
   ·intro l hl hlk c hcc
    obtain ⟨l1, l2, _⟩ := inPlace l hl
    rw [et, if_pos l1] at hcc
    exact qsep (κ l) l2 (fun e => hlk (kinj l k hl (bu (q9 hk)) e)) c hcc
   ·intro l hl hlk
    have hl : bq (ah l (aj Li)) ≠ none := hl
    obtain ⟨_, _, _, e3⟩ := ghI l hl
    exact qdis (κ l) (by show bq (ah (κ l) (aj (b7 κ θ A0 Li))) ≠ none; rw [e3]; simp) (fun e => hlk (kinj l k (bu hl) (bu (q9 hk)) e))
 have ownTo : ∀ c, @Own ρt (bo Li nxi) c → @Own ρ (bo (b7 κ θ A0 Li) nx) c := by
  rintro c ⟨k, hk, hro, hcc⟩
  obtain ⟨k1, k2, k3⟩ := inPlace k hk
  refine ⟨κ k, k2, ?_, ?_⟩
  rotate_left
  ·rcases hcc with hcc | ⟨h1, h2⟩
   ·rw [et, if_pos k1] at hcc; exact .inl hcc
   ·obtain ⟨_, _, _, e3⟩ := ghI k h1
    exact .inr ⟨by show bq (ah (κ k) (aj (b7 κ θ A0 Li))) ≠ none; rw [e3]; simp, h2⟩
  rcases k3 with ⟨a, p, pm, rfl, p1, p2⟩ | ⟨q1, q2, q3, q4, q5⟩
  ·show (ah (κ (K.of a)) (aj (b7 κ θ A0 Li))).isRo = false
   rw [p2, wq, ← p1]; exact hro
  ·have hro : (ah k (aj Li)).isRo = false := hro
   show (ah (κ k) (aj (b7 κ θ A0 Li))).isRo = false
   rw [q2, q4, ← q3]; exact hro
 refine ⟨ρt, ?_, hwt, ?_, kto, ?_⟩
 ·intro g hgg
  rw [et, di (by omega), if_pos (by omega), klow _ (by rw [di (by omega)]; exact hgg)]
  exact hg g hgg
 ·intro k hk
  rw [n2] at hk
  rw [et, if_neg (by omega)]
 ·intro ρ1 w1 hA1
  obtain ⟨⟨ri, rd, rl, rg⟩, ale, arng, anx, asize, aown, akeep, aframe, afts, aos, atape, aout⟩ := hA1
  have rng1 : ∀ k : K, k.num < nxi → ρ1 k = ρt k := fun k hk => by
   rcases arng k with e | e
   ·exact e
   ·rw [n2] at e; omega
  have rng2 : ∀ (k : K) c, nxi ≤ k.num → ρ1 k = some c → k.num < nxo := fun k c hk hcc => by
   rcases arng k with e | e
   ·rw [e, et, if_neg (by omega)] at hcc; cases hcc
   ·rw [n3] at e; exact e.2
  let ρ' : Env := { blk := fun k => if k.num < nx then ρ k else if k.num < nx + (nxo - nxi) then ρ1 (K.of (k.num - nx + nxi)) else none, sz := fun k => if k.num < nx then ρ.sz k else ρ1.sz (K.of (k.num - nx + nxi)), ft := fun k c => (∃ l, ah l (aj Lo) ≠ .none ∧ k = κ l ∧ ρ1.ft l c) ∨ ((∀ l, ah l (aj Lo) ≠ .none → k ≠ κ l) ∧ ρ.ft k c) }
  have e' : ∀ k : K, ρ' k = if k.num < nx then ρ k else if k.num < nx + (nxo - nxi) then ρ1 (K.of (k.num - nx + nxi)) else none := fun _ => rfl
  have s' : ∀ k : K, ρ'.sz k = if k.num < nx then ρ.sz k else ρ1.sz (K.of (k.num - nx + nxi)) := fun _ => rfl
  have ltOf : ∀ (k : K) c, ρ k = some c → k.num < nx := fun k c hk => by
   apply Classical.byContradiction
   intro hn
   rw [hc' k (by omega)] at hk; cases hk
  have kback : ∀ k, lr ρ1 ρ' k (κ k) := by
   intro k c hk
   by_cases h : k.num < nxi
   ·have h1 := rng1 k h
    rw [h1] at hk
    have hs := (ale k c hk).2
    rw [et, if_pos h] at hk
    have hlt := ltOf _ _ hk
    rw [e', s', if_pos hlt, if_pos hlt]
    exact ⟨hk, by rw [hs]⟩
   ·have hlt := rng2 k c (by omega) hk
    have ek : κ k = K.of (k.num - nxi + nx) := by rw [← hκ, xy (by omega) (by omega), if_pos (by omega)]
    have en : (κ k).num = k.num - nxi + nx := by rw [ek]; exact di (by omega)
    have eb : k.num - nxi + nx - nx + nxi = k.num := by omega
    rw [e', s', en, if_neg (by omega), if_pos (by omega), if_neg (by omega), eb, aob]
    exact ⟨hk, rfl⟩
  have outPlace : ∀ k, ah k (aj (b7 κ θ A0 Lo)) ≠ .none → ∃ l, ah l (aj Lo) ≠ .none ∧ k = κ l ∧
    ((∃ a p, HO.mk a p ∈ Lo ∧ l = K.of a ∧ ah l (aj Lo) = eu p ∧ ah k (aj (b7 κ θ A0 Lo)) = eu (wp κ θ A0 p)) ∨
     (k.num ≤ 255 ∧ l = k ∧ ah l (aj Lo) = ah k (ma laidL) ∧ ah k (aj (b7 κ θ A0 Lo)) = ah k (ma laidL) ∧ ah k (ma laidL) ≠ .none)) := by
   intro k hk
   by_cases hl : ∃ a o, HO.mk a o ∈ Lo ∧ k = κ (K.of a)
   ·obtain ⟨a, o, hm, rfl⟩ := hl
    obtain ⟨p, p1, p2, p3⟩ := avy (θ := θ) (A0 := A0) mapsO a o hm
    exact ⟨K.of a, by rw [p2]; exact ai2 _, rfl, .inl ⟨a, p, p1, rfl, p2, p3⟩⟩
   ·rcases atj mapsO hk with h | h
    ·exact absurd h hl
    ·obtain ⟨g, cs, _, g1, g2, g3, _⟩ := ow h
     obtain ⟨m1, m2⟩ := an2 (θ := θ) (A0 := A0) (κ := κ) g3 mapsO
     exact ⟨k, by rw [m2]; exact h, (klow k g3).symm, .inr ⟨g3, rfl, m2, m1, h⟩⟩
  have atOut : ∀ k c, ah k (aj (b7 κ θ A0 Lo)) ≠ .none → ρ' k = some c → ∃ l, ah l (aj Lo) ≠ .none ∧ k = κ l ∧ ρ1 l = some c := by
   intro k c hk hcc
   obtain ⟨l, h1, h2, _⟩ := outPlace k hk
   obtain ⟨d, hd', _⟩ := rd l h1
   have := (kback l d hd').1
   rw [← h2, hcc] at this
   cases this
   exact ⟨l, h1, h2, hd'⟩
  have kinjO : ∀ k l, ah k (aj Lo) ≠ .none → ah l (aj Lo) ≠ .none → κ k = κ l → k = l := by
   intro k l hk hl e
   rcases ac2 hk with ⟨a, o, am, rfl⟩ | hk' <;> rcases ac2 hl with ⟨b, p, bm, rfl⟩ | hl'
   ·rw [mapsO.inj a o b p am bm e]
   ·obtain ⟨_, _, _, _, _, g3, _⟩ := ow hl'
    have := mapsO.hi a o am
    rw [e, klow l g3] at this; omega
   ·obtain ⟨_, _, _, _, _, g3, _⟩ := ow hk'
    have := mapsO.hi b p bm
    rw [← e, klow k g3] at this; omega
   ·obtain ⟨_, _, _, _, _, g3, _⟩ := ow hk'
    obtain ⟨_, _, _, _, _, g4, _⟩ := ow hl'
    rw [← klow k g3, ← klow l g4, e]
  have ftO : ∀ l, ah l (aj Lo) ≠ .none → ρ'.ft (κ l) = ρ1.ft l := by
   intro l hl
   funext c
   refine propext ⟨?_, fun h => .inl ⟨l, hl, rfl, h⟩⟩
   rintro (⟨m, m1, m2, m3⟩ | ⟨m1, m2⟩)
   ·rw [kinjO l m hl m1 m2]; exact m3
   ·exact absurd rfl (m1 l hl)
  have ftN : ∀ k, (∀ l, ah l (aj Lo) ≠ .none → k ≠ κ l) → ρ'.ft k = ρ.ft k := by
   intro k hk
   funext c
   refine propext ⟨?_, fun h => .inr ⟨hk, h⟩⟩
   rintro (⟨m, m1, m2, m3⟩ | ⟨m1, m2⟩)
   ·exact absurd m2 (hk m m1)
   ·exact m2
  have ghO : ∀ k, bq (ah k (aj (b7 κ θ A0 Lo))) ≠ none → ∃ l kd g, k = κ l ∧ bq (ah l (aj Lo)) = some (kd, g) ∧ bq (ah k (aj (b7 κ θ A0 Lo))) = some (kd, g.sub θ) := by
   intro k hk
   obtain ⟨l, l1, l2, l3⟩ := outPlace k (bu hk)
   rcases l3 with ⟨a, p, pm, rfl, p1, p2⟩ | ⟨q1, q2, q3, q4, q5⟩
   ·rw [p2] at hk ⊢
    have : bq (eu p) ≠ none := fun e => hk (ajc e)
    obtain ⟨kd, g, e1, e2⟩ := ajb (κ := κ) (θ := θ) (A := A0) this
    exact ⟨K.of a, kd, g, l2, by rw [p1]; exact e1, e2⟩
   ·rw [q4, as5] at hk; exact absurd rfl hk
  refine ⟨ρ', @Adv.mk ⟨σ⟩ _ _ _ _ _ _ (@WRel.mk ⟨σ⟩ _ _ _ ?_ ?_ ?_ ?_) ?_ ?_ ?_ asize ?_ ?_ ?_ ?_ aos atape aout, kback⟩
  ·intro k l hk hl e
   have hk0 : ah k (aj (b7 κ θ A0 Lo)) ≠ .none := hk
   obtain ⟨k', k1, k2, k3⟩ := outPlace k hk
   obtain ⟨l', l1, l2, l3⟩ := outPlace l hl
   obtain ⟨c, hcc, _⟩ := rd k' k1
   obtain ⟨d, hdd, _⟩ := rd l' l1
   have q1 := (kback k' c hcc).1
   have q2 := (kback l' d hdd).1
   rw [← k2] at q1
   rw [← l2] at q2
   rw [q1, q2] at e
   injection e with e
   subst e
   rcases ri k' l' k1 l1 (by rw [hcc, hdd]) with q | ⟨q, r⟩
   ·left; rw [k2, l2, q]
   ·have roO : ∀ k k', ((∃ a p, HO.mk a p ∈ Lo ∧ k' = K.of a ∧ ah k' (aj Lo) = eu p ∧ ah k (aj (b7 κ θ A0 Lo)) = eu (wp κ θ A0 p)) ∨
      (k.num ≤ 255 ∧ k' = k ∧ ah k' (aj Lo) = ah k (ma laidL) ∧ ah k (aj (b7 κ θ A0 Lo)) = ah k (ma laidL) ∧ ah k (ma laidL) ≠ .none)) →
      (ah k (aj (b7 κ θ A0 Lo))).isRo = (ah k' (aj Lo)).isRo := by
     intro k k' h
     rcases h with ⟨a, p, pm, rfl, p1, p2⟩ | ⟨q1, q2, q3, q4, q5⟩
     ·rw [p1, p2, wq κ θ A0]
     ·rw [q3, q4]
    exact .inr ⟨(roO k k' k3).trans q, (roO l l' l3).trans r⟩
  ·intro k hk
   obtain ⟨l, l1, l2, l3⟩ := outPlace k hk
   obtain ⟨c, hcc, ho⟩ := rd l l1
   refine ⟨c, by rw [l2]; exact (kback l c hcc).1, ?_⟩
   rcases l3 with ⟨a, p, pm, rfl, p1, p2⟩ | ⟨q1, q2, q3, q4, q5⟩
   ·have ho : @ORel (GvS σ θ) ρ1 (ah (K.of a) (aj Lo)) (w1.heap[c]?) := ho
    rw [p1] at ho
    show @ORel ⟨σ⟩ ρ' (ah k (aj (b7 κ θ A0 Lo))) _
    rw [p2]
    exact bn7 hA kback (mapsO.lo a p pm).2.2 ho
   ·subst q2
    have ho : @ORel (GvS σ θ) ρ1 (ah l (aj Lo)) (w1.heap[c]?) := ho
    show @ORel ⟨σ⟩ ρ' (ah l (aj (b7 κ θ A0 Lo))) _
    obtain ⟨g, cs, g0, g1, g2, g3, g4⟩ := ow q5
    rw [q3, g4] at ho
    rw [q4, g4]
    exact azj g0 ho
  ·intro k c arr t fz hk hcc hx
   obtain ⟨l, l1, l2, l3⟩ := atOut k c hk hcc
   have := rl l c arr t fz l1 l3 hx
   rw [this, l2]
   exact (kback l c l3).2.symm
  ·intro k kd g hk
   have hk : bq (ah k (aj (b7 κ θ A0 Lo))) = some (kd, g) := hk
   obtain ⟨l, kd', g', rfl, e1, e2⟩ := ghO k (q9 hk)
   rw [hk] at e2
   injection e2 with e2
   injection e2 with e2 e2'
   subst e2 e2'
   have hl0 : ah l (aj Lo) ≠ .none := bu (by rw [e1]; simp)
   obtain ⟨qroot, qrel, qlt, qsep, qdis⟩ := rg l kd g' e1
   obtain ⟨c0, hc0, _⟩ := rd l hl0
   have hk0 := (kback l c0 hc0).1
   refine @GhAt.mk ⟨σ⟩ _ _ _ _ _ _ ?_ ?_ ?_ ?_ ?_
   ·intro c hcc; rw [hk0] at hcc; injection hcc with hcc; subst hcc; rw [ftO l hl0]; exact qroot c0 hc0
   ·intro c hcc
    rw [hk0] at hcc; injection hcc with hcc; subst hcc
    rw [ftO l hl0, GE.sub_eval]
    exact qrel c0 hc0
   ·rw [ftO l hl0]; exact qlt
   ·intro m hm hml c hcc
    obtain ⟨m', m1, rfl, m3⟩ := atOut m c hm hcc
    rw [ftO l hl0]
    exact qsep m' m1 (by rintro rfl; exact hml rfl) c m3
   ·intro m hm hml c hcf
    have hm : bq (ah m (aj (b7 κ θ A0 Lo))) ≠ none := hm
    obtain ⟨m', _, _, rfl, f1, _⟩ := ghO m hm
    have hm0 : ah m' (aj Lo) ≠ .none := bu (by rw [f1]; simp)
    rw [ftO m' hm0] at hcf
    rw [ftO l hl0]
    exact qdis m' (by show bq (ah m' (aj Lo)) ≠ none; rw [f1]; simp) (by rintro rfl; exact hml rfl) c hcf
  ·intro k c hk
   have := ltOf k c hk
   rw [e', s', if_pos this, if_pos this]
   exact ⟨hk, rfl⟩
  ·intro k
   rw [n1, n4, e']
   by_cases h : k.num < nx
   ·rw [if_pos h]; exact .inl rfl
   ·rw [if_neg h]
    by_cases h2 : k.num < nx + (nxo - nxi)
    ·exact .inr ⟨by omega, h2⟩
    ·rw [if_neg h2]; exact .inl (hc' k (by omega)).symm
  ·rw [n1, n4]; omega
  ·rintro c ⟨k, hk, hro, hcc⟩
   rcases hcc with hcc | ⟨hcg, hcf⟩
   rotate_left
   ·have hcg : bq (ah k (aj (b7 κ θ A0 Lo))) ≠ none := hcg
    obtain ⟨l, _, _, rfl, f1, _⟩ := ghO k hcg
    have hf : bq (ah l (aj Lo)) ≠ none := by rw [f1]; simp
    rw [ftO l (bu hf)] at hcf
    rcases aown c ⟨l, bu hf, as7 hf, .inr ⟨hf, hcf⟩⟩ with q | q
    ·exact .inl (ownTo c q)
    ·exact .inr q
   obtain ⟨l, l1, l2, l3⟩ := atOut k c hk hcc
   have : @Own ρ1 (bo Lo nxo) c := by
    refine ⟨l, l1, ?_, .inl l3⟩
    obtain ⟨l', h1, h2, h3⟩ := outPlace k hk
    have hll : l' = l := by
     exact kinjO l' l h1 l1 (by rw [← h2, ← l2])
    subst hll
    rcases h3 with ⟨a, p, pm, rfl, p1, p2⟩ | ⟨q1, q2, q3, q4, q5⟩
    ·show (ah (K.of a) (aj Lo)).isRo = false
     rw [p1, ← wq κ θ A0, ← p2]; assumption
    ·have hro : (ah k (aj (b7 κ θ A0 Lo))).isRo = false := hro
     show (ah l' (aj Lo)).isRo = false
     rw [q3, ← q4]; exact hro
   rcases aown c this with q | q
   ·exact .inl (ownTo c q)
   ·exact .inr q
  ·intro k c hk hcc
   obtain ⟨l, l1, l2, l3⟩ := atOut k c hk hcc
   rcases akeep l c l1 l3 with ⟨m, m1, m2⟩ | q
   ·obtain ⟨m3, m4, _⟩ := inPlace m m1
    rw [et, if_pos m3] at m2
    exact .inl ⟨κ m, m4, m2⟩
   ·exact .inr q
  ·intro c hcl hno
   exact aframe c hcl fun q => hno (ownTo c q)
  ·intro k hk hl
   have hl : bq (ah k (aj (b7 κ θ A0 Li))) = none := hl
   rw [n1] at hk
   by_cases he : ∃ l, ah l (aj Lo) ≠ .none ∧ k = κ l
   ·obtain ⟨l, l0, rfl⟩ := he
    have hln : l.num < nxi := by
     apply Classical.byContradiction
     intro hn
     obtain ⟨d, hdd, _⟩ := rd l l0
     have := rng2 l d (by omega) hdd
     have en : (κ l).num = l.num - nxi + nx := by
      rw [← hκ, xy (by omega) (by omega), if_pos (by omega)]; exact di (by omega)
     omega
    have hli : bq (ah l (aj Li)) = none := by
     by_cases e : bq (ah l (aj Li)) = none
     ·exact e
     ·obtain ⟨_, _, _, e3⟩ := ghI l e
      rw [hl] at e3; cases e3
    have q := afts l (by rw [n2]; exact hln) hli
    refine ⟨by rw [ftO l l0]; exact q.1, ?_⟩
    by_cases e : bq (ah (κ l) (aj (b7 κ θ A0 Lo))) = none
    ·exact e
    ·exfalso
     obtain ⟨l', _, _, f0, f1, _⟩ := ghO _ e
     have := kinjO l l' l0 (bu (q9 f1)) f0
     subst this
     have q2 : bq (ah l (aj Lo)) = none := q.2
     rw [f1] at q2; cases q2
   ·refine ⟨ftN k fun l h1 h2 => he ⟨l, h1, h2⟩, ?_⟩
    by_cases e : bq (ah k (aj (b7 κ θ A0 Lo))) = none
    ·exact e
    ·exfalso
     obtain ⟨l', _, _, f0, f1, _⟩ := ghO _ e
     exact he ⟨l', bu (by rw [f1]; simp), f0⟩
end
end Go.Ev
set_option maxRecDepth 100000
set_option linter.all false
namespace Go.Ev
noncomputable section
inductive TR where
 | ret (v : AV)
 | pan (ch : List PE)
inductive TM where
 | mk (f : FuncId) (vs : List AV) (nxi : Nat) (Li : List HO) (A : List SA) (bd : Option (SE × SE)) (r : TR) (nxo : Nat) (Lo : List HO)
def boc (r : TR) (w : W) : CR := match r with
 | .ret v => .ret v w
 | .pan ch => .pan ch w
def leAV (A0 : List SA) : Nat → AV → AV → Bool
 | 0, _, _ => false
 | n + 1, a, b => match a, b with
   | _, .top => true
   | .slice b o len _ (some es), .gv (.sl b' es' m A) => K.beq b b' && Nat.beq o 0 && Nat.beq es es' && fw m (.c (.ofNat len)) && od A A0
   | .agg l, .agg m => leL (leAV A0 n) l m
   | .tuple l, .tuple m => leL (leAV A0 n) l m
   | .iface t x, .iface t' y => bc (Nat.beq t t') (leAV A0 n x y) false
   | .str l m, .gv (.str (.lit l' m') A) => Nat.beq l l' && Nat.beq m m' && od A A0
   | a, b => akl 8 a b
where leL (f : AV → AV → Bool) : List AV → List AV → Bool
 | [], [] => true
 | a :: l, b :: m => bc (f a b) (leL f l m) false
 | _, _ => false
def ahh : List AV → Option (List Nat)
 | [] => some []
 | .int .u8 (.ofNat n) :: l => bc (Nat.ble n 255) ((ahh l).map (n :: ·)) none
 | _ => none
def av9 (ks : List IntKind) (l : List AV) : GE := match ahh l with
 | some ns => bc (asz ks) (.lit (br ns) (vb ns 0)) (re l)
 | none => re l
def a49 : List (AV × AV) → GE → Option GE
 | [], g => some g
 | (.str l n, .int .i64 v) :: es, g => bc (afu l n) (a49 es (my (.one (.c v)) (my (.one (.c (.ofNat l))) (my (.lit l n) g)))) none
 | _, _ => none
def ant (A0 : List SA) (o : LO) (x : AObj) : Bool := match o, x with
 | .cells t e fl fh l, .cells t' s e' fl' fh' c => Nat.beq t t' && bdh e e' && Nat.beq fl fl' && Nat.beq fh fh' && Nat.beq s (br l) && Nat.ble s 65536 && leAV.leL (leAV A0 8) (lw c s 0) l
 | .map es, .map es' => afz (akl 8) es' es
 | .gob g, .gob g' => blb g' g
 | .gob (.junk t), .cells t' _ _ fl fh _ => Nat.beq t t' && Nat.ble fh fl
 | .gob (.gh t ks (.c (.ofNat n)) g), .cells t' s _ fl fh c => Nat.beq t t' && Nat.ble fh fl && Nat.ble (n * br ks) s && xz ks 0 (lw c (n * br ks) 0) && mt g (av9 ks (lw c (n * br ks) 0)) && (!asz ks || (ahh (lw c (n * br ks) 0)).isSome || amj A0 (lw c (n * br ks) 0))
 | .gob (.gmap m), .map es => (match a49 es .nil with
   | some g => mt m g
   | none => false)
 | _, _ => false
inductive MT where
 | mk (KL : List (Nat × Nat)) (TH : List (Nat × GE))
def anz (k k' : K) : MT → MT
 | .mk KL TH => bc (Nat.ble k.num 255) (.mk KL TH) (match gf KL k.num with
   | some _ => .mk KL TH
   | none => .mk ((k.num, k'.num) :: KL) TH)
def wa : List (Nat × GE) → Nat → Option GE
 | [], _ => none
 | p :: l, k => bc (Nat.beq p.1 k) (some p.2) (wa l k)
def a82 (i : Nat) (g : GE) : MT → MT
 | .mk KL TH => match wa TH i with
   | some _ => .mk KL TH
   | none => .mk KL ((i, g) :: TH)
def mSE (e : SE) (x : SE) (M : MT) : MT := match e with
 | .v i => a82 i (.one x) M
 | _ => M
def mL (f : AV → AV → MT → MT) : List AV → List AV → MT → MT
 | a :: l, b :: m, M => mL f l m (f a b M)
 | _, _, M => M
def mAV : Nat → AV → AV → MT → MT
 | 0, _, _, M => M
 | n + 1, a, b, M => match a, b with
   | .ptr k _, .ptr k' _ => anz k k' M
   | .slice k _ _ _ _, .slice k' _ _ _ _ => anz k k' M
   | .map k, .map k' => anz k k' M
   | .func _ x y, .func _ x' y' => mL (mAV n) y y' (mL (mAV n) x x' M)
   | .iface _ x, .iface _ y => mAV n x y M
   | .agg l, .agg m => mL (mAV n) l m M
   | .tuple l, .tuple m => mL (mAV n) l m M
   | .sym _ e _, .int _ m => mSE e (.c m) M
   | .sym _ e _, .sym _ e' _ => mSE e e' M
   | .gv (.str (.s i) _), .str l m => a82 i (.lit l m) M
   | .gv (.str (.s i) _), .gv (.str g _) => a82 i g M
   | .gv (.sl k _ e _), .gv (.sl k' _ e' _) => mSE e e' (anz k k' M)
   | .gv (.sl k _ (.len (.s i)) _), .slice k' _ len _ _ => a82 (i + 1000000) (.one (.c (.ofNat len))) (anz k k' M)
   | .gv (.sl k _ e _), .slice k' _ len _ _ => mSE e (.c (.ofNat len)) (anz k k' M)
   | .gv (.ptr k _ e _ _), .gv (.ptr k' _ e' _ _) => mSE e e' (anz k k' M)
   | .gv (.sr k o e _), .gv (.sr k' o' e' _) => mSE o o' (mSE e e' (anz k k' M))
   | .gv (.pr k o e _), .gv (.pr k' o' e' _) => mSE o o' (mSE e e' (anz k k' M))
   | _, _ => M
def mGE (g : GE) (x : GE) (M : MT) : MT := match g with
 | .s i => a82 i x M
 | _ => M
def aop : MT → Nat → GE
 | .mk _ TH, i => match wa TH i with
   | some g => g
   | none => .s i
def nOf (n : SE) : MT → Option Nat
 | .mk KL TH => match n with
   | .len (.s i) => (match wa TH i, wa TH (i + 1000000) with
     | none, some (.one (.c (.ofNat m))) => some m
     | some g, _ => (match fi g with
       | .c (.ofNat m) => some m
       | _ => none)
     | _, _ => none)
   | n => (match n.sub (aop (.mk KL TH)) with
     | .c (.ofNat m) => some m
     | _ => none)
def mLO (o : LO) (x : AObj) (M : MT) : MT := match o, x with
 | .cells _ _ _ _ l, .cells _ s _ _ _ c => mL (mAV 8) l (lw c s 0) M
 | .gob (.gh _ _ n g), .gob (.gh _ _ n' g') => mGE g g' (mSE n n' M)
 | .gob (.gh _ ks n g), .cells _ _ _ _ _ c => (match nOf n M with
   | some m => mGE g (av9 ks (lw c (m * br ks) 0)) M
   | none => M)
 | .gob (.gmap m), .gob (.gmap m') => mGE m m' M
 | .gob (.lh _ m), .gob (.lh _ m') => mGE m m' M
 | .gob (.rh o n g), .gob (.rh o' n' g') => mGE g g' (mSE n n' (mSE o o' M))
 | .gob (.rb o n g), .gob (.rb o' n' g') => mGE g g' (mSE n n' (mSE o o' M))
 | .gob (.gmap m), .map es => (match a49 es .nil with
   | some g => mGE m g M
   | none => M)
 | .gob (.iter g p _), .gob (.iter g' p' _) => mSE p p' (mGE g g' M)
 | _, _ => M
def as2 : MT → List (Nat × Nat)
 | .mk KL _ => KL
def azr (w : W) : List HO → MT → MT
 | [], M => M
 | .mk k o :: l, M => azr w l (match gf (as2 M) k with
   | some k' => mLO o (cx (K.of k') w) M
   | none => M)
def bxc : AObj → List SA
 | .cells _ s _ _ _ c => agA.firstAs (lw c s 0)
 | .gob (.iter _ _ A) => A
 | _ => []
def ays (w : W) : List (Nat × Nat) → List SA
 | [] => []
 | p :: l => orA (bxc (cx (K.of p.2) w)) (ays w l)
def alo (A0 : List SA) (w : W) : List HO → Bool
 | [] => true
 | .mk k o :: l => bc (ant A0 o (cx (K.of k) w)) (alo A0 w l) false
def af1 (θ : Nat → GE) (A0 : List SA) : List SA → Bool
 | [] => true
 | .mk lt a b r :: l => bc (xx (ea lt (a.sub θ) (b.sub θ) A0) r) (af1 θ A0 l) false
def bab (θ : Nat → GE) (A0 : List SA) : List SA → Option Nat
 | [] => none
 | .mk lt a b r :: l => match ea lt (a.sub θ) (b.sub θ) A0 with
   | some c => bc (y6 c r) (bab θ A0 l) none
   | none => some (bc lt (aiw (a.sub θ) (b.sub θ)) (zw (a.sub θ) (b.sub θ)))
def bdg (bd : Option (SE × SE)) (θ : Nat → GE) (A0 : List SA) : Bool := match bd with
 | none => true
 | some p => dLt (p.1.sub θ) p.2 A0 true && dLt (p.1.sub θ) (.c 0) A0 false
def ayz (a b : SE) (A0 : List SA) (r : Bool) (o : Option Nat) : Option Nat := match ea true a b A0 with
 | some c => bc (y6 c r) o none
 | none => some (aiw a b)
def bkn (bd : Option (SE × SE)) (θ : Nat → GE) (A0 : List SA) : Option Nat := match bd with
 | none => none
 | some p => ayz (p.1.sub θ) p.2 A0 true (ayz (p.1.sub θ) (.c 0) A0 false none)
def orN (o p : Option Nat) : Option Nat := match o with
 | some m => some m
 | none => p
def baa (θ : Nat → GE) (A0 : List SA) : List SA → Bool
 | [] => false
 | .mk lt a b r :: l => match ea lt (a.sub θ) (b.sub θ) A0 with
   | some c => bc (y6 c r) (baa θ A0 l) true
   | none => baa θ A0 l
def bn6 (bd : Option (SE × SE)) (θ : Nat → GE) (A0 : List SA) : Bool := match bd with
 | none => false
 | some p => fw (p.1.sub θ) p.2 || xx (ea true (p.1.sub θ) p.2 A0) false
def azt (bd : Option (SE × SE)) (θ : Nat → GE) (A A0 : List SA) : Option Nat := bc (baa θ A0 A || bn6 bd θ A0) none (orN (bab θ A0 A) (bkn bd θ A0))
def azs (f : AV → AV) : List PE → List PE
 | [] => []
 | .mk v b :: l => .mk (f v) b :: azs f l
def bsz (f : AV → AV) : TR → TR
 | .ret v => .ret (f v)
 | .pan ch => .pan (azs f ch)
def bkc (vs us : List AV) (nxi nxo nx : Nat) (KL : List (Nat × Nat)) (θ : Nat → GE) (A0 : List SA) (Li Lo Li' Lo' : List HO) (w : W) : Bool :=
 bc (Nat.ble 256 nxi && Nat.ble nxi nxo && Nat.ble nxo 65535 && Nat.ble 256 nx && Nat.ble (nx + (nxo - nxi)) 65535)
  (bc (pd KL && ad3 nx KL && al4 KL nxi Li && alz KL nxi nxo Lo && afg (vc 8) us)
    (bc (anr nx Li' && ans nx (nx + (nxo - nxi)) Li' Lo')
      (qf laidL w && alo A0 w Li' && leAV.leL (leAV A0 8) vs (shL (gc (fp KL nxi nx) θ A0 8) us)) false) false) false
def bf9 (vs us : List AV) (nxi nxo nx : Nat) (KL : List (Nat × Nat)) (θ : Nat → GE) (A A0 : List SA) (Li Lo Li' Lo' : List HO) (w : W) : Bool :=
 bc (Nat.ble 256 nxi && Nat.ble nxi nxo && Nat.ble nxo 65535 && Nat.ble 256 nx && Nat.ble (nx + (nxo - nxi)) 65535)
  (bc (pd KL && ad3 nx KL && al4 KL nxi Li && alz KL nxi nxo Lo && afg (vc 8) us)
    (bc (anr nx Li' && ans nx (nx + (nxo - nxi)) Li' Lo')
      (bc (qf laidL w && alo A0 w Li' && leAV.leL (leAV A0 8) vs (shL (gc (fp KL nxi nx) θ A0 8) us)) (af1 θ A0 A) false) false) false) false
def bi1 (fit : Bool) (m : Option Nat) : Option Nat := bc fit m none
def a84 (o : Option Nat) : Option CR := match o with
 | some m => some (.no m 0)
 | none => none
def bbb (us : List AV) (nxi : Nat) (Li : List HO) (A : List SA) (bd : Option (SE × SE)) (r : TR) (nxo : Nat) (Lo : List HO) (vs : List AV) (w : W) (nx : Nat) (KL : List (Nat × Nat)) (θ : Nat → GE) (A0 : List SA) (Li' Lo' : List HO) : Option CR :=
 bc (bf9 vs us nxi nxo nx KL θ A A0 Li Lo Li' Lo' w && bdg bd θ A0) (some (boc (bsz (gc (fp KL nxi nx) θ A0 8) r) (.mk (yv Lo' (tc Li' (hOf w))) (K.of (nx + (nxo - nxi)))))) (a84 (bi1 (bkc vs us nxi nxo nx KL θ A0 Li Lo Li' Lo' w) (azt bd θ A A0)))
def av1 : List (Nat × GE) → Bool
 | [] => true
 | p :: l => bc (Nat.beq p.1 99) false (av1 l)
def thM : MT → List (Nat × GE)
 | .mk _ TH => TH
def bbd (us : List AV) (nxi : Nat) (Li : List HO) (A : List SA) (bd : Option (SE × SE)) (r : TR) (nxo : Nat) (Lo : List HO) (vs : List AV) (w : W) (M : MT) (A0 : List SA) : Option CR :=
 bc (av1 (thM M)) (bbb us nxi Li A bd r nxo Lo vs w (wnx w).num (as2 M) (aop M) A0 (b7 (fp (as2 M) nxi (wnx w).num) (aop M) A0 Li) (b7 (fp (as2 M) nxi (wnx w).num) (aop M) A0 Lo)) none
end
def aq [Gv] (f : FuncId) (vs : List AV) (nxi : Nat) (Li : List HO) (r : TR) (nxo : Nat) (Lo : List HO) : Prop := ∀ (ρ : Env) (args : Array Value) (w : World), GRel ρ → WRel ρ (bo Li nxi) w → Clean ρ (bo Li nxi) → VRels ρ vs args.toList →
 Calls PP f args w (CPost ρ (bo Li nxi) w (boc r (bo Lo nxo)))
def amq [Gv] (σ : Nat → List Int) (bd : Option (SE × SE)) : Prop := match bd with
 | none => True
 | some p => 0 ≤ p.1.eval σ ∧ p.1.eval σ < p.2.eval Gv.σ
def bj [Gv] : TM → Prop
 | .mk f vs nxi Li A bd r nxo Lo => ∀ σ : Nat → List Int, σ 99 = Gv.σ 99 → SAll σ A → amq σ bd → @aq ⟨σ⟩ f vs nxi Li r nxo Lo
theorem ak5 [Gv] {A : List SA} (hA : SAll Gv.σ A) {x y : SE} {r : Bool} (h : dLt x y A r = true) : decide (x.eval Gv.σ < y.eval Gv.σ) = r := by
 unfold dLt xx at h
 split at h
 ·rename_i c hc
  have := ct hA hc
  have e := abz h
  subst e
  exact this
 ·cases h
theorem ayv [Gv] {bd : Option (SE × SE)} {θ : Nat → GE} {A0 : List SA} (hA : SAll Gv.σ A0) (h : bdg bd θ A0 = true) : amq (fun i => (θ i).eval Gv.σ) bd := by
 cases bd with
 | none => trivial
 | some p =>
   simp only [bdg, zU] at h
   have h1 := qs (ak5 hA h.1)
   have h2 := qs (ak5 hA h.2)
   rw [SE.sub_eval] at h1 h2
   have h1 := h1.1 rfl
   have h2 := h2.2 rfl
   simp only [SE.eval] at h2
   exact ⟨by omega, h1⟩
section
variable [Gv] {ρ : Env} {w : World} {aw : W}
theorem abq {f : AV → AV → Bool} (hf : ∀ a b x, f a b = true → VRel ρ a x → VRel ρ b x) : ∀ {l m : List AV} {xs : List Value}, leAV.leL f l m = true → VRels ρ l xs → VRels ρ m xs
 | [], [], _, _, h => h
 | [], _ :: _, _, h, _ => by cases h
 | _ :: _, [], _, h, _ => by cases h
 | a :: l, b :: m, _, h, hx => by
   simp only [leAV.leL] at h
   obtain ⟨h1, h2⟩ := bcT.1 h
   simp only [VRels] at hx ⊢
   obtain ⟨v, vs, e, q1, q2⟩ := hx
   exact ⟨v, vs, e, hf _ _ _ h1 q1, abq hf h2 q2⟩
theorem abp {A0 : List SA} (hA : SAll Gv.σ A0) : ∀ n a b x, leAV A0 n a b = true → VRel ρ a x → VRel ρ b x
 | 0, _, _, _, h, _ => by cases h
 | n + 1, a, b, x, h, hx => by
   have ih := abp hA n
   unfold leAV at h
   split at h
   ·simp only [VRel]
   ·simp only [zU] at h
    obtain ⟨⟨⟨⟨h1, h2⟩, h3⟩, h4⟩, h5⟩ := h
    have h1 := (K.beq_iff _ _).1 h1
    have h2 := zW h2
    have h3 := zW h3
    have h4 := bn _ _ h4
    have h5 := j8 _ _ h5
    subst h1 h2 h3 h4 h5
    simp only [VRel] at hx ⊢
    obtain ⟨c, cap', q1, ⟨q2, q3⟩, q4, q5⟩ := hx
    simp only [SlOk] at q4
    refine ⟨hA, c, cap', q1, by simp only [SE.eval]; exact Int.natCast_nonneg _, by simp only [SE.eval]; simp; omega, by omega, by rw [q5]; simp [SE.eval]⟩
   ·simp only [VRel] at hx ⊢; obtain ⟨ys, e, q⟩ := hx; exact ⟨ys, e, abq ih h q⟩
   ·simp only [VRel] at hx ⊢; obtain ⟨ys, e, q⟩ := hx; exact ⟨ys, e, abq ih h q⟩
   ·obtain ⟨h1, h2⟩ := bcT.1 h
    have h1 := zW h1
    subst h1
    simp only [VRel] at hx ⊢; obtain ⟨v, e, q⟩ := hx; exact ⟨v, e, ih _ _ _ h2 q⟩
   ·simp only [zU] at h
    obtain ⟨⟨h1, h2⟩, h3⟩ := h
    have h1 := zW h1
    have h2 := zW h2
    have h3 := j8 _ _ h3
    subst h1 h2 h3
    obtain ⟨q1, q2⟩ := kx (by rfl) hx
    simp only [VRel]
    exact ⟨hA, q1, q2⟩
   ·rw [← afp 8 _ _ h]; exact hx
theorem anq {f : AV → AV → Bool} : ∀ {l m : List AV}, leAV.leL f l m = true → l.length = m.length ∧ ∀ (i : Nat) (h1 : i < l.length) (h2 : i < m.length), f l[i] m[i] = true
 | [], [], _ => ⟨rfl, fun i h => by simp at h⟩
 | [], _ :: _, h => by cases h
 | _ :: _, [], h => by cases h
 | a :: l, b :: m, h => by
   simp only [leAV.leL] at h
   obtain ⟨h1, h2⟩ := bcT.1 h
   obtain ⟨e, ih⟩ := anq h2
   refine ⟨by simp [e], fun i q1 q2 => ?_⟩
   cases i with
   | zero => exact h1
   | succ i => exact ih i (by simpa using q1) (by simpa using q2)
theorem za : ∀ {l : List AV} {ns : List Nat}, ahh l = some ns → (re l).eval Gv.σ = ns.map (fun n : Nat => (n : Int)) ∧ ∀ n ∈ ns, n ≤ 255
 | [], ns, h => by cases h; exact ⟨by simp only [re, GE.eval, List.map_nil], fun n h => by cases h⟩
 | v :: l, ns, h => by
   unfold ahh at h
   split at h
   ·rename_i e; cases e
   ·rename_i n r e
    cases e
    rw [aa] at h
    split at h <;> try (cases h; done)
    rename_i hn
    rw [zG] at h
    obtain ⟨ms, hm, rfl⟩ := h
    obtain ⟨e1, e2⟩ := za hm
    refine ⟨?_, fun m hm => ?_⟩
    ·simp only [re, ve, dm, e1, GE.eval, SE.eval, List.map_cons, List.singleton_append]; rfl
    ·rcases List.mem_cons.1 hm with rfl | q
     ·exact zE hn
     ·exact e2 m q
   ·cases h
theorem ae7 : ∀ (ns : List Nat) (a : Nat), (∀ n ∈ ns, n ≤ 255) → vb ns a = ml (ns.map UInt8.ofNat) a
 | [], _, _ => rfl
 | n :: ns, a, h => by
   simp only [vb, ml, List.map_cons]
   have hn : (UInt8.ofNat n).toNat = n := by have := h n (by simp); simp; omega
   rw [hn, ae7 ns _ fun m hm => h m (zA _ hm)]
theorem a4z {ns : List Nat} (h : ∀ n ∈ ns, n ≤ 255) : (GE.lit (br ns) (vb ns 0)).eval Gv.σ = ns.map (fun n : Nat => (n : Int)) := by
 simp only [GE.eval]
 rw [ba, ae7 ns 0 h, show ns.length = (ns.map UInt8.ofNat).length by simp, (zz _ (ns.map UInt8.ofNat) rfl).2, List.map_map]
 apply List.map_congr_left
 intro n hn
 have := h n hn
 simp only [Function.comp]
 have e : (UInt8.ofNat n).toNat = n := by simp; omega
 rw [e]
theorem ame (ks : List IntKind) (l : List AV) : (av9 ks l).eval Gv.σ = (re l).eval Gv.σ := by
 unfold av9
 split
 ·rename_i ns hn
  obtain ⟨h1, h2⟩ := za hn
  rw [aa]
  split
  ·rw [a4z h2, h1]
  ·rfl
 ·rfl
theorem ati : ∀ {es : List (AV × AV)} {ms : List MapEntry} {g r : GE} {ms0 : List MapEntry}, a49 es g = some r → ERel ρ es ms → MRel (wh (g.eval Gv.σ)) ms0 → MRel (wh (r.eval Gv.σ)) (ms0 ++ ms)
 | [], _, g, r, ms0, h, he, h0 => by cases h; simp only [ERel] at he; subst he; simpa using h0
 | p :: es, _, g, r, ms0, h, he, h0 => by
   unfold a49 at h
   split at h
   ·rename_i heq; cases heq
   ·rename_i g' l n v es' e1
    injection e1 with e1 e2
    subst e1 e2
    rw [aa] at h
    split at h <;> try (cases h; done)
    rename_i hl
    simp only [ERel] at he
    obtain ⟨m, ms, rfl, q1, q2, q3⟩ := he
    simp only [VRel] at q1 q2
    have := ati (ms0 := ms0 ++ [m]) h q3 (by
     rw [dm, dm, dm]
     simp only [GE.eval, SE.eval, List.singleton_append]
     have hlen : ((bf l n).map fun b => (b.toNat : Int)).length = l := by simp [au]
     conv => arg 1; arg 1; arg 2; arg 1; rw [show (Int.ofNat l) = (((bf l n).map fun b => (b.toNat : Int)).length : Int) by rw [hlen]; rfl]
     rw [alu]
     refine MRel.snoc ?_ (gm _) q2 _ _ h0
     rw [q1.2, j4]
     rfl)
    simpa using this
   ·cases h
theorem wc {A0 : List SA} (hA : SAll Gv.σ A0) {o : LO} {x : AObj} (h : ant A0 o x = true) : x ≠ .none ∧ x.isRo = (eu o).isRo ∧ ∀ ρ y, ORel ρ x y → ORel ρ (eu o) y := by
 unfold ant at h
 split at h
 ·rename_i t e fl fh l t' s e' fl' fh' c
  simp only [zU] at h
  obtain ⟨⟨⟨⟨⟨⟨h1, h2⟩, h3⟩, h4⟩, h5⟩, h6⟩, h7⟩ := h
  refine ⟨by simp, rfl, fun ρ y hy => ?_⟩
  obtain ⟨arr, fz, e1, e2, e3, e4, e5, e6⟩ := hy
  have h1 := zW h1
  have h2 := amr h2
  have h3 := zW h3
  have h4 := zW h4
  have h5 := zW h5
  have h6 := zE h6
  subst h1 h2 h3 h4
  obtain ⟨g1, g2⟩ := anq h7
  rw [ba] at h5
  have hcap := iq l.length (by omega)
  refine ⟨arr, fz, e1, by rw [ba]; omega, fun q => by rw [ba, ← h5]; exact e3 q, by rw [ba, dx]; exact hcap, e5, ?_⟩
  intro i hi
  rw [ba] at hi
  obtain ⟨v, q1, q2⟩ := e6 i (by omega)
  refine ⟨v, q1, ?_⟩
  rw [ba, iy l 0 _ i (by omega) (by omega), dif_pos ⟨Nat.zero_le _, by omega⟩]
  have hil : i < (lw c s 0).length := by rw [g1]; omega
  have := g2 i hil (by omega)
  refine abp hA 8 _ _ _ this ?_
  simpa [vn] using q2
 ·rename_i es es'
  refine ⟨by simp, rfl, fun ρ y hy => ?_⟩
  rw [ai5 (afp 8) _ _ h] at hy
  exact hy
 ·rename_i g g'
  have := azd h
  subst this
  exact ⟨by simp, rfl, fun ρ y hy => hy⟩
 ·rename_i t t' s e fl fh c
  simp only [zU] at h
  obtain ⟨h1, h2⟩ := h
  have h1 := zW h1
  have h2 := zE h2
  subst h1
  refine ⟨by simp, rfl, fun ρ y hy => ?_⟩
  obtain ⟨arr, fz, e1, e2, e3, e4, e5, e6⟩ := hy
  refine ⟨arr, fz, e1, ?_⟩
  apply Classical.byContradiction
  intro hn
  have := e5.2 fz.1 (zY _) (by omega)
  omega
 ·rename_i t ks n g t' s e fl fh c
  simp only [zU] at h
  obtain ⟨⟨⟨⟨⟨h1, h2⟩, h3⟩, h4⟩, h5⟩, h6⟩ := h
  have h1 := zW h1
  have h2 := zE h2
  have h3 := zE h3
  have h5 := cz _ _ h5
  subst h1 h5
  refine ⟨by simp, rfl, fun ρ y hy => ?_⟩
  obtain ⟨arr, fz, e1, e2, e3, e4, e5, e6⟩ := hy
  obtain ⟨l', q1, q2, q3⟩ := nc (i := 0) (n := n * br ks) e6 (by omega)
  obtain ⟨k1, k2⟩ := qz (ρ := ρ) (A := A0) h4 q2
  have hev : (av9 ks (lw c (n * br ks) 0)).eval Gv.σ = l'.map (fun v => match v with | .int _ n => n | _ => (0 : Int)) := (ame ks _).trans k1
  have hlen : l'.length = n * ks.length := by rw [q1, ba]
  refine ⟨arr, fz, e1, ?_, by simp only [SE.eval]; exact Int.natCast_nonneg _, ?_, ?_, ?_, ?_⟩
  ·apply Classical.byContradiction
   intro hn
   have := e5.2 fz.1 (zY _) (by omega)
   omega
  ·rw [hev, List.length_map, hlen, Nat.mul_comm]; simp [SE.eval]
  ·rw [hev, List.length_map, q1]; omega
  ·intro hk
   rw [isU8_eq.2 hk] at h6
   simp only [Bool.not_true, Bool.false_or, Bool.or_eq_true] at h6
   rcases h6 with h6 | h6
   ·obtain ⟨ns, hns⟩ := Option.isSome_iff_exists.1 h6
    obtain ⟨r1, r2⟩ := za hns
    rw [ame, r1]
    intro z hz
    obtain ⟨m, hm, rfl⟩ := List.mem_map.1 hz
    have := r2 m hm
    omega
   ·rw [hev]; exact ab4 hA h6 q2
  ·intro i hi
   have hi' : i < l'.length := by rw [hev, List.length_map] at hi; exact hi
   obtain ⟨k, v, r1, r2⟩ := k2 i hi'
   rw [Nat.zero_add] at r1
   refine ⟨k, r1, ?_⟩
   have := q3 i _ (zK hi')
   rw [Nat.zero_add] at this
   rw [this, r2]
   congr 2
   rw [List.getElem_of_eq hev hi]
   simp only [List.getElem_map, r2]
 ·rename_i m es
  split at h
  ·rename_i g hg
   have h := cz _ _ h
   subst h
   refine ⟨by simp, rfl, fun ρ y hy => ?_⟩
   obtain ⟨a, b, h1, h2⟩ := hy
   exact ⟨a, b, h1, by simpa using ati (ms0 := []) hg h2 rfl⟩
  ·cases h
 ·cases h
theorem arn {nx : Nat} (hw : WRel ρ aw w) : ∀ L : List (Nat × Nat), SAll Gv.σ (ays aw L)
 | [] => SAll.nil
 | p :: l => by
   simp only [ays]
   refine jb ?_ (arn (nx := nx) hw l)
   rw [bg]
   by_cases hn : ah (K.of p.2) aw.h = .none
   ·rw [hn]; exact SAll.nil
   ·obtain ⟨c, hc, ho⟩ := hw.dom _ hn
    generalize ah (K.of p.2) aw.h = o at ho hn
    cases o <;> try exact SAll.nil
    ·rename_i t s e fl fh cs
     obtain ⟨arr, fz, e1, e2, e3, e4, e5, e6⟩ := ho
     obtain ⟨l', q1, q2, q3⟩ := nc (i := 0) (n := s) e6 (by omega)
     exact na q2
    ·rename_i g
     cases g <;> try exact SAll.nil
     exact ho.1
theorem adk {A0 : List SA} : ∀ {L : List HO} {aw : W}, alo A0 aw L = true → ∀ n o, HO.mk n o ∈ L → ant A0 o (cx (K.of n) aw) = true
 | [], _, _, _, _, h => by cases h
 | .mk k p :: L, aw, h, n, o, hm => by
   simp only [alo] at h
   obtain ⟨h1, h2⟩ := bcT.1 h
   rcases List.mem_cons.1 hm with e | e
   ·injection e with e1 e2; subst e1 e2; exact h1
   ·exact adk h2 n o e
theorem bev {A0 : List SA} {o : LO} {x : AObj} {kd : Nat} {g : GE} (h : ant A0 o x = true) (ho : bq (eu o) = some (kd, g)) : ∃ g', bq x = some (kd, g') ∧ g.eval Gv.σ = g'.eval Gv.σ := by
 cases o with
 | gob o =>
   cases o <;> first | (cases ho; done) | skip
   injection ho with ho
   injection ho with e1 e2
   subst e1 e2
   cases x <;> first | (cases h; done) | skip
   have := azd h
   subst this
   exact ⟨_, rfl, rfl⟩
 | _ => cases ho
theorem ast {A0 : List SA} (hA : SAll Gv.σ A0) {L : List HO} {nx : Nat} {aw : W} (h1 : K.of nx = wnx aw) (h2 : qf laidL aw = true) (h3 : alo A0 aw L = true) : Sub (bo L nx) aw := by
 refine ⟨?_, ?_, ?_⟩
 ·show K.of nx = aw.nx
  rw [h1]; cases aw; rfl
 ·intro k hk
  have hk : ah k (aj L) ≠ .none := hk
  show _ ∧ (ah k (aj L)).isRo = _ ∧ ∀ ρ x, _ → ORel ρ (ah k (aj L)) x
  rcases jg k L hk with ⟨n, o, q1, q2, q3⟩ | ⟨g, cs, q1, q2, q3⟩
  ·subst q2
   have := adk h3 n o q1
   rw [bg] at this
   obtain ⟨r1, r2, r3⟩ := wc hA this
   rw [q3]
   exact ⟨r1, by rw [r2], r3⟩
  ·subst q2
   obtain ⟨n, c, r1⟩ := zq h2 g cs q1
   rw [bg] at r1
   rw [q3, r1]
   refine ⟨by simp, rfl, fun ρ x hx => ?_⟩
   obtain ⟨arr, t', fz, e1, e2, e3, e4, e5⟩ := hx
   obtain ⟨_, _, f3⟩ := jd _ ic g cs q1
   have hv := e5 g cs rfl q1
   have hlen := VRels.length _ _ (hv ρ)
   rw [ba]
   refine ⟨arr, t', fz, e1, by simpa using hlen, by rw [dx]; exact iq _ f3, fun i hi => ?_, e5⟩
   obtain ⟨v, s1, s2⟩ := sm (hv ρ) f3 i hi
   exact ⟨v, by simpa using s1, s2⟩
 ·intro k kd g hk
  have hk : bq (ah k (aj L)) = some (kd, g) := hk
  rcases jg k L (bu (q9 hk)) with ⟨n, o, q1, q2, q3⟩ | ⟨g', cs, q1, q2, q3⟩
  ·subst q2
   have := adk h3 n o q1
   rw [bg] at this
   rw [q3] at hk
   exact bev this hk
  ·rw [q3] at hk; cases hk
theorem aaa {θ : Nat → GE} {A0 : List SA} (hA : SAll Gv.σ A0) : ∀ {A : List SA}, af1 θ A0 A = true → SAll (fun i => (θ i).eval Gv.σ) A
 | [], _ => SAll.nil
 | .mk lt a b r :: A, h => by
   simp only [af1] at h
   obtain ⟨h1, h2⟩ := bcT.1 h
   intro x hx
   rcases List.mem_cons.1 hx with e | e
   ·subst e
    unfold xx at h1
    split at h1
    ·rename_i c hc
     have := ct hA hc
     have e := abz h1
     subst e
     cases lt
     ·have this : decide ((a.sub θ).eval Gv.σ = (b.sub θ).eval Gv.σ) = c := this
      show decide (a.eval _ = b.eval _) = c
      rw [← this]
      exact decide_eq_decide.2 (by rw [SE.sub_eval, SE.sub_eval])
     ·have this : decide ((a.sub θ).eval Gv.σ < (b.sub θ).eval Gv.σ) = c := this
      show decide (a.eval _ < b.eval _) = c
      rw [← this]
      exact decide_eq_decide.2 (by rw [SE.sub_eval, SE.sub_eval])
    ·cases h1
   ·exact aaa hA h2 x e
theorem a6x {σ : Nat → List Int} {θ : Nat → GE} {κ : K → K} {ρ ρt : Env} {A : List SA} (hA : SAll σ A) (hk : ∀ k, lr ρt ρ k (κ k)) : ∀ {ch : List PE} {l : List PanicEntry}, @ChRel (GvS σ θ) ρt ch l → @ChRel ⟨σ⟩ ρ (azs (gc κ θ A 8) ch) l
 | [], _, h => h
 | .mk v r :: ch, _, ⟨v', ch', h1, h2, h3⟩ => ⟨v', ch', h1, bwd hA hk 8 _ _ h2, a6x hA hk h3⟩
theorem adz : ∀ {l : List (Nat × GE)}, av1 l = true → wa l 99 = none
 | [], _ => rfl
 | p :: l, h => by
   simp only [av1, aa] at h
   split at h
   ·cases h
   ·rename_i hp
    simp only [wa, aa]
    rw [if_neg hp]
    exact adz h
set_option maxHeartbeats 1000000 in
theorem bbc {f : FuncId} {us : List AV} {nxi : Nat} {Li : List HO} {A : List SA} {bd : Option (SE × SE)} {r : TR} {nxo : Nat} {Lo : List HO} (hT : bj (.mk f us nxi Li A bd r nxo Lo)) {vs : List AV} {aw : W} {KL : List (Nat × Nat)} {θ : Nat → GE} {A0 : List SA}
  (h99 : (θ 99).eval Gv.σ = Gv.σ 99) {R : CR} (hR : R.ok)
  (hr : bbb us nxi Li A bd r nxo Lo vs aw (wnx aw).num KL θ A0 (b7 (fp KL nxi (wnx aw).num) θ A0 Li) (b7 (fp KL nxi (wnx aw).num) θ A0 Lo) = some R)
  {ρ : Env} {args : Array Value} {w : World} (hA : SAll Gv.σ A0) (hg : GRel ρ) (hw : WRel ρ aw w) (hc : Clean ρ aw) (hv : VRels ρ vs args.toList) : Calls PP f args w (CPost ρ aw w R) := by
 unfold bbb at hr
 rw [aa] at hr
 split at hr
 case isFalse =>
  unfold a84 at hr
  split at hr
  ·injection hr with hr; subst hr; exact hR.elim
  ·cases hr
 rename_i hok
 injection hr with hr
 subst hr
 rw [zU] at hok
 obtain ⟨hok, hbd⟩ := hok
 unfold bf9 at hok
 obtain ⟨k1, hok⟩ := bcT.1 hok
 obtain ⟨k2, hok⟩ := bcT.1 hok
 obtain ⟨k3, hok⟩ := bcT.1 hok
 obtain ⟨k4, k5⟩ := bcT.1 hok
 simp only [zU] at k1 k2 k3 k4
 obtain ⟨⟨⟨⟨b1, b2⟩, b3⟩, b4⟩, b5⟩ := k1
 obtain ⟨⟨⟨⟨d1, d2⟩, d3⟩, d4⟩, d5⟩ := k2
 obtain ⟨f1, f2⟩ := k3
 obtain ⟨⟨g1, g2⟩, g3⟩ := k4
 have b1 := zE b1
 have b2 := zE b2
 have b3 := zE b3
 have b4 := zE b4
 have b5 := zE b5
 have hSA := aaa hA k5
 have sub := ast hA (nx := (wnx aw).num) (K.of_of _) g1 g2
 have hcl : Clean ρ (bo (b7 (fp KL nxi (wnx aw).num) θ A0 Li) (wnx aw).num) := fun k hk => hc k (by rw [← sub.nx]; exact hk)
 obtain ⟨ρt, q1, q2, q3, q4, q5⟩ := a98 (σ := Gv.σ) (θ := θ) hA b1 b2 b3 b4 b5 d1 d2 d3 d4 hg (hw.sub sub) hcl
 have hv' : @VRels (GvS Gv.σ θ) ρt us args.toList := avm (fun x v p h => fwd hA q4 8 x v p h) d5 (abq (abp hA 8) g3 hv)
 have := hT (fun i => (θ i).eval Gv.σ) h99 hSA (ayv hA hbd) ρt args w q1 q2 q3 hv'
 refine Calls.mono this fun e w' hp => ?_
 cases r with
 | ret v =>
   obtain ⟨v', ρ1, rfl, hv1, hA1⟩ := hp
   obtain ⟨ρ', hA2, hkb⟩ := q5 ρ1 w' hA1
   exact ⟨v', ρ', rfl, bwd hA hkb 8 _ _ hv1, adi hw hc sub f1 f2 b5 hA2⟩
 | pan ch =>
   obtain ⟨ch', ρ1, rfl, hv1, hA1⟩ := hp
   obtain ⟨ρ', hA2, hkb⟩ := q5 ρ1 w' hA1
   exact ⟨ch', ρ', rfl, a6x hA hkb hv1, adi hw hc sub f1 f2 b5 hA2⟩
end
end Go.Ev
