import GoSem.Dispatch
import Derived.Calls
set_option linter.all false
namespace Go.Ev
inductive I where
 | i0
 | i1
 | i2
 | i3
 | i4
 | i5
 | i6
 | i7
 | i8
 | i9
 | i10
 | i11
 | i12
 | i13
 | i14
 | i15
 deriving DecidableEq
namespace I
def val : I → Nat
 | .i0 => 0
 | .i1 => 1
 | .i2 => 2
 | .i3 => 3
 | .i4 => 4
 | .i5 => 5
 | .i6 => 6
 | .i7 => 7
 | .i8 => 8
 | .i9 => 9
 | .i10 => 10
 | .i11 => 11
 | .i12 => 12
 | .i13 => 13
 | .i14 => 14
 | .i15 => 15
noncomputable def num (i : I) : Nat := I.rec (motive := fun _ => Nat) 0 1 2 3 4 5 6 7 8 9 10 11 12 13 14 15 i
noncomputable def next (i : I) : I := I.rec (motive := fun _ => I) .i1 .i2 .i3 .i4 .i5 .i6 .i7 .i8 .i9 .i10 .i11 .i12 .i13 .i14 .i15 .i0 i
noncomputable def isMax (i : I) : Bool := I.rec (motive := fun _ => Bool) false false false false false false false false false false false false false false false true i
end I
noncomputable def bc {α : Type} (c : Bool) (t e : α) : α := Bool.rec (motive := fun _ => α) e t c
noncomputable def I.of (x : Nat) : I := (bc (Nat.ble x 7) (bc (Nat.ble x 3) (bc (Nat.ble x 1) (bc (Nat.ble x 0) .i0 .i1) (bc (Nat.ble x 2) .i2 .i3)) (bc (Nat.ble x 5) (bc (Nat.ble x 4) .i4 .i5) (bc (Nat.ble x 6) .i6 .i7))) (bc (Nat.ble x 11) (bc (Nat.ble x 9) (bc (Nat.ble x 8) .i8 .i9) (bc (Nat.ble x 10) .i10 .i11)) (bc (Nat.ble x 13) (bc (Nat.ble x 12) .i12 .i13) (bc (Nat.ble x 14) .i14 .i15))))
structure N (α : Type) where
 mk ::
 a0 : α
 a1 : α
 a2 : α
 a3 : α
 a4 : α
 a5 : α
 a6 : α
 a7 : α
 a8 : α
 a9 : α
 a10 : α
 a11 : α
 a12 : α
 a13 : α
 a14 : α
 a15 : α
namespace N
variable {α : Type}
noncomputable def g0 (t : N α) : α := N.rec (motive := fun _ => α) (fun a0 _ _ _ _ _ _ _ _ _ _ _ _ _ _ _ => a0) t
noncomputable def p0 (x : α) (t : N α) : N α := N.rec (motive := fun _ => N α) (fun _ a1 a2 a3 a4 a5 a6 a7 a8 a9 a10 a11 a12 a13 a14 a15 => N.mk x a1 a2 a3 a4 a5 a6 a7 a8 a9 a10 a11 a12 a13 a14 a15) t
noncomputable def g1 (t : N α) : α := N.rec (motive := fun _ => α) (fun _ a1 _ _ _ _ _ _ _ _ _ _ _ _ _ _ => a1) t
noncomputable def p1 (x : α) (t : N α) : N α := N.rec (motive := fun _ => N α) (fun a0 _ a2 a3 a4 a5 a6 a7 a8 a9 a10 a11 a12 a13 a14 a15 => N.mk a0 x a2 a3 a4 a5 a6 a7 a8 a9 a10 a11 a12 a13 a14 a15) t
noncomputable def g2 (t : N α) : α := N.rec (motive := fun _ => α) (fun _ _ a2 _ _ _ _ _ _ _ _ _ _ _ _ _ => a2) t
noncomputable def p2 (x : α) (t : N α) : N α := N.rec (motive := fun _ => N α) (fun a0 a1 _ a3 a4 a5 a6 a7 a8 a9 a10 a11 a12 a13 a14 a15 => N.mk a0 a1 x a3 a4 a5 a6 a7 a8 a9 a10 a11 a12 a13 a14 a15) t
noncomputable def g3 (t : N α) : α := N.rec (motive := fun _ => α) (fun _ _ _ a3 _ _ _ _ _ _ _ _ _ _ _ _ => a3) t
noncomputable def p3 (x : α) (t : N α) : N α := N.rec (motive := fun _ => N α) (fun a0 a1 a2 _ a4 a5 a6 a7 a8 a9 a10 a11 a12 a13 a14 a15 => N.mk a0 a1 a2 x a4 a5 a6 a7 a8 a9 a10 a11 a12 a13 a14 a15) t
noncomputable def g4 (t : N α) : α := N.rec (motive := fun _ => α) (fun _ _ _ _ a4 _ _ _ _ _ _ _ _ _ _ _ => a4) t
noncomputable def p4 (x : α) (t : N α) : N α := N.rec (motive := fun _ => N α) (fun a0 a1 a2 a3 _ a5 a6 a7 a8 a9 a10 a11 a12 a13 a14 a15 => N.mk a0 a1 a2 a3 x a5 a6 a7 a8 a9 a10 a11 a12 a13 a14 a15) t
noncomputable def g5 (t : N α) : α := N.rec (motive := fun _ => α) (fun _ _ _ _ _ a5 _ _ _ _ _ _ _ _ _ _ => a5) t
noncomputable def p5 (x : α) (t : N α) : N α := N.rec (motive := fun _ => N α) (fun a0 a1 a2 a3 a4 _ a6 a7 a8 a9 a10 a11 a12 a13 a14 a15 => N.mk a0 a1 a2 a3 a4 x a6 a7 a8 a9 a10 a11 a12 a13 a14 a15) t
noncomputable def g6 (t : N α) : α := N.rec (motive := fun _ => α) (fun _ _ _ _ _ _ a6 _ _ _ _ _ _ _ _ _ => a6) t
noncomputable def p6 (x : α) (t : N α) : N α := N.rec (motive := fun _ => N α) (fun a0 a1 a2 a3 a4 a5 _ a7 a8 a9 a10 a11 a12 a13 a14 a15 => N.mk a0 a1 a2 a3 a4 a5 x a7 a8 a9 a10 a11 a12 a13 a14 a15) t
noncomputable def g7 (t : N α) : α := N.rec (motive := fun _ => α) (fun _ _ _ _ _ _ _ a7 _ _ _ _ _ _ _ _ => a7) t
noncomputable def p7 (x : α) (t : N α) : N α := N.rec (motive := fun _ => N α) (fun a0 a1 a2 a3 a4 a5 a6 _ a8 a9 a10 a11 a12 a13 a14 a15 => N.mk a0 a1 a2 a3 a4 a5 a6 x a8 a9 a10 a11 a12 a13 a14 a15) t
noncomputable def g8 (t : N α) : α := N.rec (motive := fun _ => α) (fun _ _ _ _ _ _ _ _ a8 _ _ _ _ _ _ _ => a8) t
noncomputable def p8 (x : α) (t : N α) : N α := N.rec (motive := fun _ => N α) (fun a0 a1 a2 a3 a4 a5 a6 a7 _ a9 a10 a11 a12 a13 a14 a15 => N.mk a0 a1 a2 a3 a4 a5 a6 a7 x a9 a10 a11 a12 a13 a14 a15) t
noncomputable def g9 (t : N α) : α := N.rec (motive := fun _ => α) (fun _ _ _ _ _ _ _ _ _ a9 _ _ _ _ _ _ => a9) t
noncomputable def p9 (x : α) (t : N α) : N α := N.rec (motive := fun _ => N α) (fun a0 a1 a2 a3 a4 a5 a6 a7 a8 _ a10 a11 a12 a13 a14 a15 => N.mk a0 a1 a2 a3 a4 a5 a6 a7 a8 x a10 a11 a12 a13 a14 a15) t
noncomputable def g10 (t : N α) : α := N.rec (motive := fun _ => α) (fun _ _ _ _ _ _ _ _ _ _ a10 _ _ _ _ _ => a10) t
noncomputable def p10 (x : α) (t : N α) : N α := N.rec (motive := fun _ => N α) (fun a0 a1 a2 a3 a4 a5 a6 a7 a8 a9 _ a11 a12 a13 a14 a15 => N.mk a0 a1 a2 a3 a4 a5 a6 a7 a8 a9 x a11 a12 a13 a14 a15) t
noncomputable def g11 (t : N α) : α := N.rec (motive := fun _ => α) (fun _ _ _ _ _ _ _ _ _ _ _ a11 _ _ _ _ => a11) t
noncomputable def p11 (x : α) (t : N α) : N α := N.rec (motive := fun _ => N α) (fun a0 a1 a2 a3 a4 a5 a6 a7 a8 a9 a10 _ a12 a13 a14 a15 => N.mk a0 a1 a2 a3 a4 a5 a6 a7 a8 a9 a10 x a12 a13 a14 a15) t
noncomputable def g12 (t : N α) : α := N.rec (motive := fun _ => α) (fun _ _ _ _ _ _ _ _ _ _ _ _ a12 _ _ _ => a12) t
noncomputable def p12 (x : α) (t : N α) : N α := N.rec (motive := fun _ => N α) (fun a0 a1 a2 a3 a4 a5 a6 a7 a8 a9 a10 a11 _ a13 a14 a15 => N.mk a0 a1 a2 a3 a4 a5 a6 a7 a8 a9 a10 a11 x a13 a14 a15) t
noncomputable def g13 (t : N α) : α := N.rec (motive := fun _ => α) (fun _ _ _ _ _ _ _ _ _ _ _ _ _ a13 _ _ => a13) t
noncomputable def p13 (x : α) (t : N α) : N α := N.rec (motive := fun _ => N α) (fun a0 a1 a2 a3 a4 a5 a6 a7 a8 a9 a10 a11 a12 _ a14 a15 => N.mk a0 a1 a2 a3 a4 a5 a6 a7 a8 a9 a10 a11 a12 x a14 a15) t
noncomputable def g14 (t : N α) : α := N.rec (motive := fun _ => α) (fun _ _ _ _ _ _ _ _ _ _ _ _ _ _ a14 _ => a14) t
noncomputable def p14 (x : α) (t : N α) : N α := N.rec (motive := fun _ => N α) (fun a0 a1 a2 a3 a4 a5 a6 a7 a8 a9 a10 a11 a12 a13 _ a15 => N.mk a0 a1 a2 a3 a4 a5 a6 a7 a8 a9 a10 a11 a12 a13 x a15) t
noncomputable def g15 (t : N α) : α := N.rec (motive := fun _ => α) (fun _ _ _ _ _ _ _ _ _ _ _ _ _ _ _ a15 => a15) t
noncomputable def p15 (x : α) (t : N α) : N α := N.rec (motive := fun _ => N α) (fun a0 a1 a2 a3 a4 a5 a6 a7 a8 a9 a10 a11 a12 a13 a14 _ => N.mk a0 a1 a2 a3 a4 a5 a6 a7 a8 a9 a10 a11 a12 a13 a14 x) t
noncomputable def get (i : I) : N α → α := I.rec (motive := fun _ => N α → α) g0 g1 g2 g3 g4 g5 g6 g7 g8 g9 g10 g11 g12 g13 g14 g15 i
noncomputable def set (i : I) : α → N α → N α := I.rec (motive := fun _ => α → N α → N α) p0 p1 p2 p3 p4 p5 p6 p7 p8 p9 p10 p11 p12 p13 p14 p15 i
noncomputable def all (x : α) : N α := N.mk x x x x x x x x x x x x x x x x
end N
inductive K where
 | mk (a b c d : I)
 deriving DecidableEq
noncomputable def K.num (k : K) : Nat := K.rec (motive := fun _ => Nat) (fun a b c d => Nat.add (Nat.mul (Nat.add (Nat.mul (Nat.add (Nat.mul a.num 16) b.num) 16) c.num) 16) d.num) k
noncomputable def K.of (x : Nat) : K := .mk (I.of (x / 4096 % 16)) (I.of (x / 256 % 16)) (I.of (x / 16 % 16)) (I.of (x % 16))
noncomputable def K.succ (k : K) : K := K.rec (motive := fun _ => K)
 (fun a b c d => bc d.isMax (bc c.isMax (bc b.isMax (.mk a.next .i0 .i0 .i0) (.mk a b.next .i0 .i0)) (.mk a b c.next .i0)) (.mk a b c d.next)) k
noncomputable def K.isMax (k : K) : Bool := K.rec (motive := fun _ => Bool) (fun a b c d => bc a.isMax (bc b.isMax (bc c.isMax d.isMax false) false) false) k
noncomputable def K.beq (k l : K) : Bool := Nat.beq k.num l.num
mutual
inductive SE where
 | v (i : Nat)
 | c (n : Int)
 | bin (op : Nat) (k : IntKind) (a b : SE)
 | len (g : GE)
 | rd (g : GE) (e : SE)
 | dr (g : GE) (e : SE)
 | dw (g : GE) (e : SE)
 | eqg (g h : GE)
 | mhas (m g : GE)
 | mget (m g : GE)
 | app (f : Nat) (l : AL)
inductive GE where
 | s (i : Nat)
 | nil
 | one (e : SE)
 | cat (a b : GE)
 | lit (len n : Nat)
 | cut (g : GE) (a b : SE)
 | enc (e : SE)
 | app (f : Nat) (l : AL)
inductive AL where
 | nil
 | i (e : SE) (l : AL)
 | g (x : GE) (l : AL)
end
inductive SA where
 | mk (lt : Bool) (a b : SE) (r : Bool)
inductive GV where
 | str (g : GE) (A : List SA)
 | sl (b : K) (es : Nat) (n : SE) (A : List SA)
 | ptr (b : K) (es : Nat) (i : SE) (off : Nat) (A : List SA)
 | sr (b : K) (o n : SE) (A : List SA)
 | pr (b : K) (o i : SE) (A : List SA)
inductive GO where
 | gh (t : TypeId) (ks : List IntKind) (n : SE) (g : GE)
 | junk (t : TypeId)
 | gmap (m : GE)
 | iter (g : GE) (pos : SE) (A : List SA)
 | lh (k : Nat) (g : GE)
 | rh (o n : SE) (g : GE)
 | rb (o n : SE) (g : GE)
inductive AV where
 | bool (b : Bool)
 | int (k : IntKind) (n : Int)
 | str (len n : Nat)
 | nilPtr
 | ptr (b : K) (off : Nat)
 | nilSlice
 | slice (b : K) (off len cap : Nat) (ex : Option Nat)
 | nilMap
 | map (b : K)
 | func (fn : Fn) (first captured : List AV)
 | nilFunc
 | iface (t : TypeId) (v : AV)
 | nilIface
 | agg (cells : List AV)
 | tuple (vs : List AV)
 | esl
 | wsl (b kb : K) (d n : Nat)
 | wse (b : K)
 | wptr (b kb : K) (i : Nat)
 | sym (k : IntKind) (e : SE) (A : List SA)
 | sx (c : Nat) (e : SE) (A : List (Nat × Nat))
 | gv (x : GV)
 | top
abbrev C0 := N AV
abbrev C1 := N C0
abbrev C2 := N C1
abbrev C3 := N C2
inductive Cells where
 | c0 (x : C0)
 | c1 (x : C1)
 | c2 (x : C2)
 | c3 (x : C3)
inductive AD where
 | call (fn : Fn) (cap args : List AV)
 | coll (b : K)
abbrev F2 := N (N AV)
inductive F where
 | mk (lo hi : F2)
inductive GP where
 | mk (e : SE) (t : TypeId) (k : K)
inductive AObj where
 | none
 | cells (t : TypeId) (size : Nat) (ext : Bool) (fl fh : Nat) (c : Cells)
 | ro (t : TypeId) (size : Nat) (c : Cells)
 | map (es : List (AV × AV))
 | strIter (len n pos : Nat)
 | loop (st : LoopState) (pend : Option Code) (fn nt : Nat) (tmps : F) (params : List Tmp) (assign body : Code) (defers : K)
 | deferred (ds : Option (List AD))
 | win (kb : K) (l : List AV)
 | umap (es : List (AV × AV))
 | pk (t : TypeId) (len n fl fh : Nat)
 | gob (o : GO)
 | gp (ro : Bool) (t : TypeId) (n : SE) (g : GE) (ps : List GP)
abbrev H1 := N AObj
abbrev H2 := N H1
abbrev H3 := N H2
abbrev H4 := N H3
inductive W where
 | mk (h : H4) (nx : K)
noncomputable def c0g (i : I) : N (AV) → AV := I.rec (motive := fun _ => N (AV) → AV) (@N.g0 (AV)) (@N.g1 (AV)) (@N.g2 (AV)) (@N.g3 (AV)) (@N.g4 (AV)) (@N.g5 (AV)) (@N.g6 (AV)) (@N.g7 (AV)) (@N.g8 (AV)) (@N.g9 (AV)) (@N.g10 (AV)) (@N.g11 (AV)) (@N.g12 (AV)) (@N.g13 (AV)) (@N.g14 (AV)) (@N.g15 (AV)) i
noncomputable def c0s (i : I) : AV → N (AV) → N (AV) := I.rec (motive := fun _ => AV → N (AV) → N (AV)) (@N.p0 (AV)) (@N.p1 (AV)) (@N.p2 (AV)) (@N.p3 (AV)) (@N.p4 (AV)) (@N.p5 (AV)) (@N.p6 (AV)) (@N.p7 (AV)) (@N.p8 (AV)) (@N.p9 (AV)) (@N.p10 (AV)) (@N.p11 (AV)) (@N.p12 (AV)) (@N.p13 (AV)) (@N.p14 (AV)) (@N.p15 (AV)) i
noncomputable def c1g (i : I) : N (C0) → C0 := I.rec (motive := fun _ => N (C0) → C0) (@N.g0 (C0)) (@N.g1 (C0)) (@N.g2 (C0)) (@N.g3 (C0)) (@N.g4 (C0)) (@N.g5 (C0)) (@N.g6 (C0)) (@N.g7 (C0)) (@N.g8 (C0)) (@N.g9 (C0)) (@N.g10 (C0)) (@N.g11 (C0)) (@N.g12 (C0)) (@N.g13 (C0)) (@N.g14 (C0)) (@N.g15 (C0)) i
noncomputable def c1s (i : I) : C0 → N (C0) → N (C0) := I.rec (motive := fun _ => C0 → N (C0) → N (C0)) (@N.p0 (C0)) (@N.p1 (C0)) (@N.p2 (C0)) (@N.p3 (C0)) (@N.p4 (C0)) (@N.p5 (C0)) (@N.p6 (C0)) (@N.p7 (C0)) (@N.p8 (C0)) (@N.p9 (C0)) (@N.p10 (C0)) (@N.p11 (C0)) (@N.p12 (C0)) (@N.p13 (C0)) (@N.p14 (C0)) (@N.p15 (C0)) i
noncomputable def c2g (i : I) : N (C1) → C1 := I.rec (motive := fun _ => N (C1) → C1) (@N.g0 (C1)) (@N.g1 (C1)) (@N.g2 (C1)) (@N.g3 (C1)) (@N.g4 (C1)) (@N.g5 (C1)) (@N.g6 (C1)) (@N.g7 (C1)) (@N.g8 (C1)) (@N.g9 (C1)) (@N.g10 (C1)) (@N.g11 (C1)) (@N.g12 (C1)) (@N.g13 (C1)) (@N.g14 (C1)) (@N.g15 (C1)) i
noncomputable def c2s (i : I) : C1 → N (C1) → N (C1) := I.rec (motive := fun _ => C1 → N (C1) → N (C1)) (@N.p0 (C1)) (@N.p1 (C1)) (@N.p2 (C1)) (@N.p3 (C1)) (@N.p4 (C1)) (@N.p5 (C1)) (@N.p6 (C1)) (@N.p7 (C1)) (@N.p8 (C1)) (@N.p9 (C1)) (@N.p10 (C1)) (@N.p11 (C1)) (@N.p12 (C1)) (@N.p13 (C1)) (@N.p14 (C1)) (@N.p15 (C1)) i
noncomputable def c3g (i : I) : N (C2) → C2 := I.rec (motive := fun _ => N (C2) → C2) (@N.g0 (C2)) (@N.g1 (C2)) (@N.g2 (C2)) (@N.g3 (C2)) (@N.g4 (C2)) (@N.g5 (C2)) (@N.g6 (C2)) (@N.g7 (C2)) (@N.g8 (C2)) (@N.g9 (C2)) (@N.g10 (C2)) (@N.g11 (C2)) (@N.g12 (C2)) (@N.g13 (C2)) (@N.g14 (C2)) (@N.g15 (C2)) i
noncomputable def c3s (i : I) : C2 → N (C2) → N (C2) := I.rec (motive := fun _ => C2 → N (C2) → N (C2)) (@N.p0 (C2)) (@N.p1 (C2)) (@N.p2 (C2)) (@N.p3 (C2)) (@N.p4 (C2)) (@N.p5 (C2)) (@N.p6 (C2)) (@N.p7 (C2)) (@N.p8 (C2)) (@N.p9 (C2)) (@N.p10 (C2)) (@N.p11 (C2)) (@N.p12 (C2)) (@N.p13 (C2)) (@N.p14 (C2)) (@N.p15 (C2)) i
noncomputable def h1g (i : I) : N (AObj) → AObj := I.rec (motive := fun _ => N (AObj) → AObj) (@N.g0 (AObj)) (@N.g1 (AObj)) (@N.g2 (AObj)) (@N.g3 (AObj)) (@N.g4 (AObj)) (@N.g5 (AObj)) (@N.g6 (AObj)) (@N.g7 (AObj)) (@N.g8 (AObj)) (@N.g9 (AObj)) (@N.g10 (AObj)) (@N.g11 (AObj)) (@N.g12 (AObj)) (@N.g13 (AObj)) (@N.g14 (AObj)) (@N.g15 (AObj)) i
noncomputable def h1s (i : I) : AObj → N (AObj) → N (AObj) := I.rec (motive := fun _ => AObj → N (AObj) → N (AObj)) (@N.p0 (AObj)) (@N.p1 (AObj)) (@N.p2 (AObj)) (@N.p3 (AObj)) (@N.p4 (AObj)) (@N.p5 (AObj)) (@N.p6 (AObj)) (@N.p7 (AObj)) (@N.p8 (AObj)) (@N.p9 (AObj)) (@N.p10 (AObj)) (@N.p11 (AObj)) (@N.p12 (AObj)) (@N.p13 (AObj)) (@N.p14 (AObj)) (@N.p15 (AObj)) i
noncomputable def h2g (i : I) : N (H1) → H1 := I.rec (motive := fun _ => N (H1) → H1) (@N.g0 (H1)) (@N.g1 (H1)) (@N.g2 (H1)) (@N.g3 (H1)) (@N.g4 (H1)) (@N.g5 (H1)) (@N.g6 (H1)) (@N.g7 (H1)) (@N.g8 (H1)) (@N.g9 (H1)) (@N.g10 (H1)) (@N.g11 (H1)) (@N.g12 (H1)) (@N.g13 (H1)) (@N.g14 (H1)) (@N.g15 (H1)) i
noncomputable def h2s (i : I) : H1 → N (H1) → N (H1) := I.rec (motive := fun _ => H1 → N (H1) → N (H1)) (@N.p0 (H1)) (@N.p1 (H1)) (@N.p2 (H1)) (@N.p3 (H1)) (@N.p4 (H1)) (@N.p5 (H1)) (@N.p6 (H1)) (@N.p7 (H1)) (@N.p8 (H1)) (@N.p9 (H1)) (@N.p10 (H1)) (@N.p11 (H1)) (@N.p12 (H1)) (@N.p13 (H1)) (@N.p14 (H1)) (@N.p15 (H1)) i
noncomputable def h3g (i : I) : N (H2) → H2 := I.rec (motive := fun _ => N (H2) → H2) (@N.g0 (H2)) (@N.g1 (H2)) (@N.g2 (H2)) (@N.g3 (H2)) (@N.g4 (H2)) (@N.g5 (H2)) (@N.g6 (H2)) (@N.g7 (H2)) (@N.g8 (H2)) (@N.g9 (H2)) (@N.g10 (H2)) (@N.g11 (H2)) (@N.g12 (H2)) (@N.g13 (H2)) (@N.g14 (H2)) (@N.g15 (H2)) i
noncomputable def h3s (i : I) : H2 → N (H2) → N (H2) := I.rec (motive := fun _ => H2 → N (H2) → N (H2)) (@N.p0 (H2)) (@N.p1 (H2)) (@N.p2 (H2)) (@N.p3 (H2)) (@N.p4 (H2)) (@N.p5 (H2)) (@N.p6 (H2)) (@N.p7 (H2)) (@N.p8 (H2)) (@N.p9 (H2)) (@N.p10 (H2)) (@N.p11 (H2)) (@N.p12 (H2)) (@N.p13 (H2)) (@N.p14 (H2)) (@N.p15 (H2)) i
noncomputable def h4g (i : I) : N (H3) → H3 := I.rec (motive := fun _ => N (H3) → H3) (@N.g0 (H3)) (@N.g1 (H3)) (@N.g2 (H3)) (@N.g3 (H3)) (@N.g4 (H3)) (@N.g5 (H3)) (@N.g6 (H3)) (@N.g7 (H3)) (@N.g8 (H3)) (@N.g9 (H3)) (@N.g10 (H3)) (@N.g11 (H3)) (@N.g12 (H3)) (@N.g13 (H3)) (@N.g14 (H3)) (@N.g15 (H3)) i
noncomputable def h4s (i : I) : H3 → N (H3) → N (H3) := I.rec (motive := fun _ => H3 → N (H3) → N (H3)) (@N.p0 (H3)) (@N.p1 (H3)) (@N.p2 (H3)) (@N.p3 (H3)) (@N.p4 (H3)) (@N.p5 (H3)) (@N.p6 (H3)) (@N.p7 (H3)) (@N.p8 (H3)) (@N.p9 (H3)) (@N.p10 (H3)) (@N.p11 (H3)) (@N.p12 (H3)) (@N.p13 (H3)) (@N.p14 (H3)) (@N.p15 (H3)) i
abbrev ff : AV := .tuple []
noncomputable def abx (i j : I) (t : F2) : AV := c0g j (c1g i t)
noncomputable def aig (i j : I) (v : AV) (t : F2) : F2 := c1s i (c0s j v (c1g i t)) t
noncomputable def flo (i j : I) (τ : F) : AV := F.rec (motive := fun _ => I → I → AV) (fun lo _ i j => abx i j lo) τ i j
noncomputable def fhi (i j : I) (τ : F) : AV := F.rec (motive := fun _ => I → I → AV) (fun _ hi i j => abx i j hi) τ i j
noncomputable def a90 (i j : I) (v : AV) (τ : F) : F := F.rec (motive := fun _ => I → I → AV → F) (fun lo hi i j v => .mk (aig i j v lo) hi) τ i j v
noncomputable def a9z (i j : I) (v : AV) (τ : F) : F := F.rec (motive := fun _ => I → I → AV → F) (fun lo hi i j v => .mk lo (aig i j v hi)) τ i j v
noncomputable def ev (t : Nat) : F → AV := bc (Nat.ble t 255) (flo (I.of (t / 16)) (I.of (t % 16))) (bc (Nat.ble t 511) (fhi (I.of (t / 16 - 16)) (I.of (t % 16))) (fun _ => .top))
noncomputable def ail (t : Nat) : AV → F → F := bc (Nat.ble t 255) (a90 (I.of (t / 16)) (I.of (t % 16))) (a9z (I.of (t / 16 - 16)) (I.of (t % 16)))
noncomputable def aby : F2 := N.all (N.all ff)
noncomputable def lr : F := .mk aby aby
noncomputable def aen (nt d : Nat) (v : AV) (τ : F) : F := bc (Nat.blt d nt) (ail d v τ) τ
noncomputable def md (nt : Nat) (dst : Option Nat) : AV → F → F := Option.rec (motive := fun _ => AV → F → F) (fun _ τ => τ) (aen nt) dst
noncomputable def na (l : List AV) : Nat → F → F := List.rec (motive := fun _ => Nat → F → F) (fun _ τ => τ) (fun v _ ih i τ => ih (Nat.succ i) (ail i v τ)) l
noncomputable def ac (k : K) (h : H4) : AObj := K.rec (motive := fun _ => H4 → AObj) (fun a b c d h => h1g d (h2g c (h3g b (h4g a h)))) k h
noncomputable def a7x (d : I) (o : AObj) (x : H1) : H1 := h1s d o x
noncomputable def a7w (c d : I) (o : AObj) (x : H2) : H2 := h2s c (a7x d o (h2g c x)) x
noncomputable def a7v (b c d : I) (o : AObj) (x : H3) : H3 := h3s b (a7w c d o (h3g b x)) x
noncomputable def bn (k : K) (o : AObj) (h : H4) : H4 := K.rec (motive := fun _ => AObj → H4 → H4) (fun a b c d o h => h4s a (a7v b c d o (h4g a h)) h) k o h
noncomputable def ab9 : H4 := N.all (N.all (N.all (N.all AObj.none)))
noncomputable def ov (x : C0) (i : Nat) : AV := c0g (I.of (i % 16)) x
noncomputable def nw (x : C1) (i : Nat) : AV := ov (c1g (I.of (i / 16 % 16)) x) i
noncomputable def ny (x : C2) (i : Nat) : AV := nw (c2g (I.of (i / 256 % 16)) x) i
noncomputable def aa8 (x : C3) (i : Nat) : AV := ny (c3g (I.of (i / 4096 % 16)) x) i
noncomputable def ou (c : Cells) : Nat → AV := Cells.rec (motive := fun _ => Nat → AV) ov nw ny aa8 c
noncomputable def ah6 (x : C0) (i : Nat) (v : AV) : C0 := c0s (I.of (i % 16)) v x
noncomputable def ah7 (x : C1) (i : Nat) (v : AV) : C1 := c1s (I.of (i / 16 % 16)) (ah6 (c1g (I.of (i / 16 % 16)) x) i v) x
noncomputable def ah8 (x : C2) (i : Nat) (v : AV) : C2 := c2s (I.of (i / 256 % 16)) (ah7 (c2g (I.of (i / 256 % 16)) x) i v) x
noncomputable def aro (x : C3) (i : Nat) (v : AV) : C3 := c3s (I.of (i / 4096 % 16)) (ah8 (c3g (I.of (i / 4096 % 16)) x) i v) x
noncomputable def arn (c : Cells) : Nat → AV → Cells := Cells.rec (motive := fun _ => Nat → AV → Cells)
 (fun x i v => .c0 (ah6 x i v)) (fun x i v => .c1 (ah7 x i v)) (fun x i v => .c2 (ah8 x i v)) (fun x i v => .c3 (aro x i v)) c
noncomputable def ak1 : C0 := N.all .top
noncomputable def rj : C1 := N.all ak1
noncomputable def qe : C2 := N.all rj
noncomputable def uy : C3 := N.all qe
noncomputable def gx (n : Nat) : Cells := bc (Nat.ble n 16) (.c0 ak1) (bc (Nat.ble n 256) (.c1 rj) (bc (Nat.ble n 4096) (.c2 qe) (.c3 uy)))
noncomputable def up0 (x : C0) (n : Nat) : Cells := bc (Nat.ble n 16) (.c0 x) (bc (Nat.ble n 256) (.c1 (c1s .i0 x rj)) (bc (Nat.ble n 4096) (.c2 (c2s .i0 (c1s .i0 x rj) qe)) (.c3 (c3s .i0 (c2s .i0 (c1s .i0 x rj) qe) uy))))
noncomputable def up1 (x : C1) (n : Nat) : Cells := bc (Nat.ble n 256) (.c1 x) (bc (Nat.ble n 4096) (.c2 (c2s .i0 x qe)) (.c3 (c3s .i0 (c2s .i0 x qe) uy)))
noncomputable def up2 (x : C2) (n : Nat) : Cells := bc (Nat.ble n 4096) (.c2 x) (.c3 (c3s .i0 x uy))
noncomputable def cup (c : Cells) : Nat → Cells := Cells.rec (motive := fun _ => Nat → Cells) up0 up1 up2 (fun x _ => .c3 x) c
noncomputable def kh (l : List AV) : Nat → Cells → Cells := List.rec (motive := fun _ => Nat → Cells → Cells) (fun _ c => c) (fun v _ ih i c => ih (Nat.succ i) (arn c i v)) l
noncomputable def ki (c : Cells) (n : Nat) : Nat → List AV := Nat.rec (motive := fun _ => Nat → List AV) (fun _ => []) (fun _ ih i => ou c i :: ih (Nat.succ i)) n
end Go.Ev
