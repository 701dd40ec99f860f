import Derived.Test.YtdeddgiacdjjdaaGreatDoorEvF
set_option linter.all false
namespace Go.Ev
noncomputable section
def aOf : AV → List SA
 | .sym _ _ A => A
 | .gv (.str _ A) => A
 | .gv (.sl _ _ _ A) => A
 | .gv (.ptr _ _ _ _ A) => A
 | .gv (.sr _ _ _ A) => A
 | .gv (.pr _ _ _ A) => A
 | _ => []
def orA (A B : List SA) : List SA := match A with
 | [] => B
 | a :: l => a :: l
def q9 : AV → Option SE
 | .int _ n => some (.c n)
 | .sym _ e _ => some e
 | _ => none
def knd : AV → Option IntKind
 | .int k _ => some k
 | .sym k _ _ => some k
 | _ => none
def gk : SE → SE → SE
 | .c m, .c n => .c (Int.add m n)
 | .bin 6 k a (.c m), .c n => .bin 6 k a (.c (Int.add m n))
 | .c 0, b => b
 | a, .c 0 => a
 | a, b => .bin 6 .i64 a b
def dy : GE → SE
 | .nil => .c 0
 | .one _ => .c 1
 | .cat a b => gk (dy a) (dy b)
 | .lit l _ => .c (.ofNat l)
 | g => .len g
def k7 : GE → GE → GE
 | .nil, b => b
 | a, .nil => a
 | .lit l n, .lit l' n' => bc (Nat.blt n' (Nat.pow 256 l')) (.lit (l + l') (n * Nat.pow 256 l' + n')) (.cat (.lit l n) (.lit l' n'))
 | .cat a (.lit l n), .lit l' n' => bc (Nat.blt n' (Nat.pow 256 l')) (.cat a (.lit (l + l') (n * Nat.pow 256 l' + n'))) (.cat (.cat a (.lit l n)) (.lit l' n'))
 | a, b => .cat a b
def tp (o : Option Bool) (b : Bool) : Bool := match o with
 | some c => ur c b
 | none => false
def dLt (a b : SE) (A : List SA) (r : Bool) : Bool := tp (cz true a b A) r
def anh (es off : Nat) (i : SE) : SE := bc (Nat.beq es 1) (bc (Nat.beq off 0) i (gk i (.c (.ofNat off)))) (gk (.bin 7 .i64 (.c (.ofNat es)) i) (.c (.ofNat off)))
def ac2 (g : GE) (e : SE) : SE := .rd g e
def acj (a b : SE) : Nat := xg (fun x => fi x 1) (fg a) (fg b)
def vc (a b : SE) : Nat := xg (fun x => fi x 0) (fg a) (fg b)
def iw (a b : SE) (A : List SA) (r : Bool) (c : Nat) (k : OR) : OR := match cz true a b A with
 | some x => bc (ur x r) k (.no c)
 | none => .no (acj a b)
def adg : AV → Option GE
 | .str l n => some (.lit l n)
 | .gv (.str g _) => some g
 | _ => none
def vz (ks : List IntKind) (g : GE) (es : Nat) (i : SE) (A : List SA) : Nat → Nat → Option (List AV)
 | 0, _ => some []
 | n + 1, off => match nth ks off with
   | some k => (vz ks g es i A n (off + 1)).map (.sym k (ac2 g (anh es off i)) A :: ·)
   | none => none
def ahk (t : TypeId) (o i o' n : SE) (g : GE) (A : List SA) (w : W) (c : Nat) : OR := match o with
 | .bin 6 _ a d => bc (dk a o') (iw a (.c 0) A false c (iw d (.c 0) A false c (iw (gk d i) n A true c (match mt t with
   | some none => .val (.sym .i64 (ac2 g (gk d i)) A) w
   | _ => .no c)))) (.no c)
 | _ => .no c
def agf (i : SE) : List GP → Option AV
 | [] => none
 | .mk e t k :: l => bc (dk i e) (some (.iface t (.ptr k 0))) (agf i l)
def ahj (t : TypeId) (es off : Nat) (i : SE) (ps : List GP) (w : W) (c : Nat) : OR := bc (Nat.beq es 1 && Nat.beq off 0) (match mt t, agf i ps with
 | some none, some v => .val v w
 | _, _ => .no c) (.no c)
def akp (t : TypeId) (p : AV) (w : W) (c : Nat) : OR := match p with
 | .gv (.ptr b es i off A) => (match bz b w with
   | .gob (.gh _ ks n g) => bc (Nat.beq (bl ks) es) (iw i n A true c (match mt t with
     | some none => (match vz ks g es i A 1 off with
       | some [v] => .val v w
       | _ => .no c)
     | some (some m) => (match vz ks g es i A m off with
       | some l => .val (.agg l) w
       | none => .no c)
     | none => .no c)) (.no c)
   | .gp _ _ _ _ ps => ahj t es off i ps w c
   | _ => .no c)
 | .gv (.pr b o i A) => (match bz b w with
   | .gob (.rh o' n g) => bc (dk o o') (iw i n A true c (match mt t with
     | some none => .val (.sym .i64 (ac2 g i) A) w
     | _ => .no c)) (ahk t o i o' n g A w c)
   | .gob (.rb o' n g) => bc (dk o o') (iw i n A true c (match mt t, cz false (ac2 g i) (.c 0) A with
     | some none, some r => .val (.bool (!r)) w
     | some none, none => .no (qq .eql (ac2 g i) (.c 0))
     | _, _ => .no c)) (.no c)
   | _ => .no c)
 | _ => .no c
def nr (t : TypeId) (x i : AV) (w : W) (c : Nat) : OR := match x, q9 i, al t with
 | .gv (.sl b es n A), some e, some (.slice el) => bc (Nat.blt 0 es) (match sizeOf el with
   | some s => bc (Nat.beq s es) (iw e (.c 0) (orA A (aOf i)) false c (iw e n (orA A (aOf i)) true c (.val (.gv (.ptr b es e 0 (orA A (aOf i)))) w))) (.no c)
   | none => .no c) (.no c)
 | .gv (.sr b o n A), some e, some (.slice el) => (match sizeOf el with
   | some 1 => iw e (.c 0) (orA A (aOf i)) false c (iw e n (orA A (aOf i)) true c (.val (.gv (.pr b o e (orA A (aOf i)))) w))
   | _ => .no c)
 | _, _, _ => .no c
def ads (t : TypeId) (x i : AV) (w : W) (c : Nat) : OR := match adg x, q9 i, al t with
 | some g, some e, some .string => iw e (.c 0) (orA (aOf x) (aOf i)) false c (iw e (dy g) (orA (aOf x) (aOf i)) true c (.val (.sym .u8 (ac2 g e) (orA (aOf x) (aOf i))) w))
 | _, _, _ => .no c
def aau (op : BinOp) (g h : GE) (A : List SA) (w : W) (c : Nat) : OR := match op with
 | .add => iw (.c 9223372036854775807) (dy (k7 g h)) A false c (.val (.gv (.str (k7 g h) A)) w)
 | .eql => (match cz false (.eqg g h) (.c 1) A with
   | some r => .val (.bool r) w
   | none => .no (vc (.eqg g h) (.c 1)))
 | .neq => (match cz false (.eqg g h) (.c 1) A with
   | some r => .val (.bool (!r)) w
   | none => .no (vc (.eqg g h) (.c 1)))
 | _ => .no c
def aoq (op : BinOp) (k : IntKind) (a b : SE) (A : List SA) (w : W) (c : Nat) : OR := match op with
 | .and => .val (.sym k (.bin 8 k a b) A) w
 | .or => .val (.sym k (.bin 9 k a b) A) w
 | .xor => .val (.sym k (.bin 10 k a b) A) w
 | .andNot => .val (.sym k (.bin 13 k a b) A) w
 | _ => .no c
def ahl (op : BinOp) (k : IntKind) (a b : SE) (A : List SA) (w : W) (c : Nat) : OR := match op with
 | .shl => iw b (.c 0) A false c (.val (.sym k (.bin 11 k a b) A) w)
 | .shr => iw b (.c 0) A false c (.val (.sym k (.bin 12 k a b) A) w)
 | _ => .no c
def a94 : BinOp → Bool
 | .shl | .shr => true
 | _ => false
def aor (w : W) (A : List SA) : Nat → TypeId → AV → AV → Option Bool
 | 0, _, _, _ => none
 | d + 1, t, x, y => match al t with
   | some (.int _) => (match q9 x, q9 y, knd x, knd y with
     | some a, some b, some k, some k' => bc (nb k k') (cz false a b A) none
     | _, _, _, _ => none)
   | some .string => (match adg x, adg y with
     | some g, some h => cz false (.eqg g h) (.c 1) A
     | _, _ => none)
   | some (.struct fs) => (match x, y with
     | .agg xs, .agg ys => bc (PP.stoodInHeld t) none (eqFields (aor w A d) xs ys fs.toList)
     | _, _ => none)
   | _ => abq w 8 t x y
def agA : AV → List SA
 | .agg l => firstAs l
 | v => aOf v
where firstAs : List AV → List SA
 | [] => []
 | v :: l => orA (aOf v) (firstAs l)
def ahi (A : List SA) : List AV → List AV → Nat
 | x :: l, y :: m => (match q9 x, q9 y with
   | some a, some b => (match cz false a b A with
     | some true => ahi A l m
     | some false => 0
     | none => vc a b)
   | _, _ => ahi A l m)
 | _, _ => 0
def y8 (r : Bool) (t : TypeId) (a b : AV) (w : W) (c : Nat) : OR := match aor w (orA (agA a) (agA b)) 3 t a b with
 | some q => .val (.bool (bc r q (!q))) w
 | none => (match a, b with
   | .agg xs, .agg ys => (match ahi (orA (agA a) (agA b)) xs ys with
     | 0 => .no c
     | m => .no m)
   | _, _ => .no c)
def a07 : AV → Bool
 | .agg _ => true
 | _ => false
def a0a (op : BinOp) (t : TypeId) (x y : Operand) (a b : AV) (w : W) (c : Nat) : OR :=
 match adg a, adg b with
 | some g, some h => aau op g h (orA (aOf a) (aOf b)) w c
 | _, _ => match q9 a, q9 b, knd a, knd b with
   | some e, some f, some k, some k' => bc (a94 op) (ahl op k e f (orA (aOf a) (aOf b)) w c) (bc (nb k k') (aoq op k e f (orA (aOf a) (aOf b)) w c) (.no c))
   | _, _, _, _ => bc (a07 a && a07 b && ql t x y a b) (match op with
     | .eql => y8 true t a b w c
     | .neq => y8 false t a b w c
     | _ => .no c) (.no c)
def ako (src dst : TypeId) (x : AV) (w : W) (c : Nat) : OR := match al src, al dst, x with
 | some _, some (.int k), .sym _ e A => .val (.sym k (.bin 0 k e (.c 0)) A) w
 | some _, some .string, .sym _ e A => .val (.gv (.str (.enc e) A)) w
 | some _, some .string, .gv (.str g A) => .val (.gv (.str g A)) w
 | _, _, _ => .no c
def a4k (o : Option AV) (d : SE) : Option SE := match o with
 | none => some d
 | some v => q9 v
def a4f (o : Option AV) : List SA := match o with
 | none => []
 | some v => aOf v
def aat (t : TypeId) (x : AV) (lo hi mx : Option AV) (w : W) (c : Nat) : OR := match al t, adg x, mx, a4k lo (.c 0) with
 | some .string, some g, none, some l => (match a4k hi (dy g) with
   | some h => (fun A => iw l (.c 0) A false c (iw h l A false c (iw (dy g) h A false c (.val (.gv (.str (.cut g l h) A)) w)))) (orA (aOf x) (orA (a4f lo) (a4f hi)))
   | none => .no c)
 | _, _, _, _ => .no c
def ahm (t : TypeId) (b : K) (lo hi mx : Option AV) (w : W) (c : Nat) : OR := match al t, hi, mx with
 | some (.slice e), some h, some m => (match sizeOf e, gf (some m) 0 0, gf (some h) 0 0, gf lo 0 0 with
   | some _, some _, some _, some _ => .val (.slice b 0 0 0 none) w
   | _, _, _, _ => .no c)
 | _, _, _ => .no c
def aas (t : TypeId) (b : K) (o n : SE) (A : List SA) (lo hi mx : Option AV) (w : W) (c : Nat) : OR := match al t, lo, hi, mx with
 | some (.slice e), some l', some h', none => (match sizeOf e, q9 l', q9 h' with
   | some 1, some l, some (.bin 0 .i64 l2 (.c 1)) => bc (dk l2 l) ((fun B => iw o (.c 0) B false c (iw l (.c 0) B false c (iw (.bin 0 .i64 l2 (.c 1)) l B false c (iw l n B true c (.val (.gv (.sr b (gk o l) (.c 1) B)) w))))) (orA A (orA (aOf l') (aOf h')))) (.no c)
   | _, _, _ => .no c)
 | _, _, _, _ => .no c
def adt (t : TypeId) (x : AV) (lo hi mx : Option AV) (w : W) (c : Nat) : OR := match x with
 | .gv (.sl b _ _ _) => ahm t b lo hi mx w c
 | .gv (.sr b o n A) => aas t b o n A lo hi mx w c
 | _ => aat t x lo hi mx w c
def aej (e : SE) (k : IntKind) (A : List SA) : List (AV × AV) → Nat ⊕ Option AV
 | [] => .inr none
 | p :: es => match p.1 with
   | .int k' n => bc (nb k k') (match cz false e (.c n) A with
     | some true => .inr (some p.2)
     | some false => aej e k A es
     | none => .inl (vc e (.c n))) (.inl 0)
   | _ => .inl 0
def aiy (t : TypeId) (k : IntKind) : Bool := match qn t with
 | some (.int k') => nb k k'
 | _ => false
def xb (t : TypeId) : Bool := match qn t with
 | some .string => true
 | _ => false
def ayn (ok : Bool) (z : AV) (w : W) (c : Nat) : Nat ⊕ Option AV → OR
 | .inr (some v) => ng ok v true w
 | .inr none => ng ok z false w
 | .inl 0 => .no c
 | .inl m => .no m
def xq (t : TypeId) (m k : AV) (ok : Bool) (w : W) (c : Nat) : OR := match m, kj t with
 | .map b, some z => (match bz b w with
   | .map es => (match k with
     | .sym kd e A => bc (kx t && aiy t kd) (ayn ok z w c (aej e kd A es)) (.no c)
     | _ => .no c)
   | .gob (.gmap mg) => (match adg k, z with
     | some g, .int .i64 0 => bc (kx t && xb t) (match cz false (.mhas mg g) (.c 1) (aOf k) with
       | some true => ng ok (.sym .i64 (.mget mg g) (aOf k)) true w
       | some false => ng ok z false w
       | none => .no (vc (.mhas mg g) (.c 1))) (.no c)
     | _, _ => .no c)
   | _ => .no c)
 | _, _ => .no c
def ahn (t : TypeId) (m k v : AV) (w : W) (c : Nat) : OR := match m with
 | .map b => (match bz b w with
   | .gob (.gmap mg) => (match adg k, q9 v, knd v with
     | some g, some e, some .i64 => bc (kx t && xb t) (match cz false (.mhas mg g) (.c 1) (orA (aOf k) (aOf v)) with
       | some false => .val ff (wset b (.gob (.gmap (k7 (.one e) (k7 (.one (dy g)) (k7 g mg))))) w)
       | some true => .no c
       | none => .no (vc (.mhas mg g) (.c 1))) (.no c)
     | _, _, _ => .no c)
   | _ => .no c)
 | _ => .no c
def am3 (t : TypeId) (x : AV) (w : W) (c : Nat) : OR := match al t, x with
 | some .string, .gv (.str g A) => kz (.gob (.iter g (.c 0) A)) aqb w
 | _, _ => .no c
def a0f (it : AV) (isString : Bool) (w : W) (c : Nat) : OR := match it, isString with
 | .ptr b 0, true => (match bz b w with
   | .gob (.iter g pos A) => (match cz true pos (dy g) A with
     | some true => .val (.tuple [.bool true, .sym .i64 pos A, .sym .i32 (.dr g pos) A]) (wset b (.gob (.iter g (gk pos (.dw g pos)) A)) w)
     | some false => .val (.tuple [.bool false]) w
     | none => .no (acj pos (dy g)))
   | _ => .no c)
 | _, _ => .no c
def tu (ks : List IntKind) : Nat → List AV → Bool
 | _, [] => true
 | i, v :: l => (match nth ks (i % bl ks), knd v with
   | some k, some k' => bc (nb k k') (tu ks (i + 1) l) false
   | _, _ => false)
def a7y : Int → Bool
 | .ofNat n => Nat.ble n 255
 | _ => false
def u8E (A : List SA) : SE → Bool
 | .c n => a7y n
 | .bin 0 .u8 _ _ => true
 | .bin 1 .u8 _ _ => true
 | .bin 8 .u8 _ _ => true
 | .bin 9 .u8 _ _ => true
 | e => dLt e (.c 0) A false && dLt e (.c 256) A true
def aiz (ks : List IntKind) : Bool := match ks with
 | [.u8] => true
 | _ => false
def afo (A : List SA) : List AV → Bool
 | [] => true
 | v :: l => (match q9 v with
   | some e => bc (u8E A e) (afo A l) false
   | none => false)
def oe : List AV → GE
 | [] => .nil
 | v :: l => (match q9 v with
   | some e => k7 (.one e) (oe l)
   | none => .nil)
def s8 (l : List AV) : List SA := agA.firstAs l
def ahh (b : K) (n : SE) (A : List SA) (w : W) (c : Nat) : OR := match bz b w with
 | .gob (.gh _ ks n' g) => bc (dk n n' && aiz ks) (.val (.gv (.str g A)) w) (.no c)
 | _ => .no c
def adr (src dst : TypeId) (x : AV) (w : W) (c : Nat) : OR := match al src, al dst with
 | some (.slice e), some .string => (match al e, x with
   | some (.int .u8), .gv (.sl b _ n A) => ahh b n A w c
   | some (.int .u8), x => (match mr 1 x w with
     | some l => bc (tu [.u8] 0 l && afo (s8 l) l) (.val (.gv (.str (oe l) (s8 l))) w) (.no c)
     | none => .no c)
   | _, _ => .no c)
 | _, _ => ako src dst x w c
def aki (el : TypeId) (b : K) (es : Nat) (n : SE) (A : List SA) (new : List AV) (m : Nat) (w : W) (c : Nat) : OR := match bz b w with
 | .gob (.gh t ks n' g) => bc (Nat.beq t el && dk n n' && Nat.beq (bl ks) es && tu ks 0 new && (!aiz ks || afo A new))
    (kz (.gob (.gh t ks (gk n (.c (.ofNat m))) (k7 g (oe new)))) (fun k => .gv (.sl k es (gk n (.c (.ofNat m))) A)) (wset b .none w)) (.no c)
 | .gob (.junk t) => bc (Nat.beq t el && aaz new) (kz (.gob (.junk t)) (fun k => .gv (.sl k es (gk n (.c (.ofNat m))) A)) (wset b .none w)) (.no c)
 | .gp false t n' g [] => (match new with
   | [.iface ty (.ptr kp 0)] => bc (Nat.beq t el && dk n n' && Nat.beq es 1 && Nat.beq m 1 && !K.beq kp b) (kz (.gp false t (gk n (.c (.ofNat m))) g [.mk n ty kp]) (fun k => .gv (.sl k es (gk n (.c (.ofNat m))) A)) (wset b .none w)) (.no c)
   | _ => .no c)
 | _ => .no c
def akl (el : TypeId) (b : K) (n : SE) (A : List SA) (h : GE) (w : W) (c : Nat) : OR := match bz b w with
 | .gob (.gh t ks n' g) => bc (Nat.beq t el && dk n n' && aiz ks)
    (kz (.gob (.gh t ks (gk n (dy h)) (k7 g h))) (fun k => .gv (.sl k 1 (gk n (dy h)) A)) (wset b .none w)) (.no c)
 | _ => .no c
def adq (t : TypeId) (xt : Option TypeId) (s x : AV) (w : W) (c : Nat) : OR :=
 bc (y9 xt) (match al t, s with
 | some (.slice e), .gv (.sl b es n A) => (match sizeOf e, (d7 e).map (·.bytes), fy e with
   | some size, some bytes, some z => bc (ju z && Nat.beq (bl (cellsOf z)) size && Nat.beq size es && Nat.blt 0 es && Nat.ble bytes 1000000)
     (match adg x with
       | some h => bc (Nat.beq es 1) (iw (.c 400000) (gk n (dy h)) (orA A (aOf x)) false c (akl e b n (orA A (aOf x)) h w c)) (.no c)
       | none => (match ky size x w with
         | some (m, new) => iw (.c 400000) (gk n (.c (.ofNat m))) (orA A (s8 new)) false c (aki e b es n (orA A (s8 new)) new m w c)
         | none => .no c)) (.no c)
   | _, _, _ => .no c)
 | _, _ => .no c) (.no c)
def xp (t : TypeId) (xt : Option TypeId) (b : K) (es : Nat) (n : SE) (A : List SA) (w : W) (c : Nat) : OR :=
 bc (y9 xt) (match al t with
 | some (.slice e) => (match sizeOf e, (d7 e).map (·.bytes), fy e, bz b w with
   | some size, some bytes, some z, .gob (.gh t' ks n' g) => bc (ju z && Nat.beq (bl (cellsOf z)) size && Nat.beq size es && Nat.blt 0 es && Nat.ble bytes 1000000 && Nat.beq t' e && dk n n' && Nat.beq (bl ks) es)
      (iw (.c 0) n A true c (iw (.c 400000) n A false c (kz (.gob (.gh t' ks n g)) (fun k => .gv (.sl k es n A)) w))) (.no c)
   | _, _, _, _ => .no c)
 | _ => .no c) (.no c)
def adp (t : TypeId) (xt : Option TypeId) (h : GE) (A : List SA) (w : W) (c : Nat) : OR :=
 bc (y9 xt) (match al t with
 | some (.slice e) => (match sizeOf e, (d7 e).map (·.bytes), fy e with
   | some size, some bytes, some z => bc (ju z && Nat.beq (bl (cellsOf z)) size && Nat.beq size 1 && Nat.ble bytes 1000000)
      (match cz true (.c 0) (dy h) A with
        | some true => iw (.c 400000) (dy h) A false c (kz (.gob (.gh e [.u8] (dy h) h)) (fun k => .gv (.sl k 1 (dy h) A)) w)
        | some false => .val .nilSlice w
        | none => .no (acj (.c 0) (dy h))) (.no c)
   | _, _, _ => .no c)
 | _ => .no c) (.no c)
def ahg (t : TypeId) (xt : Option TypeId) (s x : AV) (w : W) (c : Nat) : OR := match s, x with
 | .slice _ _ 0 0 none, .gv (.sl b es n A) => xp t xt b es n A w c
 | .nilSlice, .gv (.sl b es n A) => xp t xt b es n A w c
 | .nilSlice, .gv (.str h A) => adp t xt h A w c
 | _, _ => adq t xt s x w c
def a0d (t : TypeId) (x : AV) (w : W) (c : Nat) : OR := match al t, x with
 | some .string, .gv (.str g A) => .val (.sym .i64 (dy g) A) w
 | some (.slice _), .gv (.sl _ _ n A) => .val (.sym .i64 n A) w
 | some (.slice _), .gv (.sr _ _ n A) => .val (.sym .i64 n A) w
 | _, _ => .no c
def am4 (x : AV) (w : W) (c : Nat) : OR := match x with
 | .gv (.sl b es n A) => iw (.c 0) n A true c (.val (.gv (.ptr b es (.c 0) 0 A)) w)
 | _ => .no c
def adu (pt : TypeId) (p n : AV) (w : W) (c : Nat) : OR := match p, n with
 | .gv (.ptr b 1 (.c 0) 0 A), .sym .i64 e _ => (match bz b w with
   | .gob (.gh t ks n' g) => bc (dk e n' && aiz ks) (match al pt, sizeOf t with
     | some (.pointer u), some s => bc (Nat.beq t u && Nat.beq s 1) (iw (.c 0) e A true c (iw (.c 400000) e A false c (.val (.gv (.str g A)) (wset b .none w)))) (.no c)
     | _, _ => .no c) (.no c)
   | _ => .no c)
 | _, _ => .no c
def sw (b : Builtin) (ts : List TypeId) (vs : List AV) (w : W) (c : Nat) : OR := match b, ts, vs with
 | .len, t :: _, [x] => a0d t x w c
 | .append, t :: ts, [s, x] => ahg t ts.head? s x w c
 | .unsafeString, [t, _], [p, n] => adu t p n w c
 | .unsafeSliceData, _, [x] => am4 x w c
 | _, _, _ => .no c
def xOp (o : Op) (τ : F) (w : W) (c : Nat) : OR := match o with
 | .load t a => akp t (evX a τ) w c
 | .indexAddr t x i => nr t (evX x τ) (evX i τ) w c
 | .index t x i => ads t (evX x τ) (evX i τ) w c
 | .binOp op t x y _ => a0a op t x y (evX x τ) (evX y τ) w c
 | .convert s d x => adr s d (evX x τ) w c
 | .slice t x lo hi mx => adt t (evX x τ) (lo.map fun y => evX y τ) (hi.map fun y => evX y τ) (mx.map fun y => evX y τ) w c
 | .lookup t m k ok => xq t (evX m τ) (evX k τ) ok w c
 | .mapUpdate t m k v => ahn t (evX m τ) (evX k τ) (evX v τ) w c
 | .range t x => am3 t (evX x τ) w c
 | .next it s => a0f (evX it τ) s w c
 | .call ⟨.builtin b, args, ts⟩ => sw b ts.toList (qi args.toList τ) w c
 | _ => .no c
def arl : SE → Option Int
 | .c n => some n
 | _ => none
def sa (e : SE) : List SA → Option Int
 | [] => arl e
 | .mk lt a b r :: l => match lt, b, r with
   | false, .c n, true => bc (dk e a) (some n) (sa e l)
   | _, _, _ => sa e l
def a35 (o : Option Int) (k : IntKind) (e : SE) (A : List SA) : AV := match o with
 | some n => .int k n
 | none => .sym k e A
def acn : AV → AV
 | .sym k e A => a35 (sa e A) k e A
 | v => v
def j6 : OR → OR
 | .val v w => .val (acn v) w
 | r => r
def gOp (o : Op) (τ : F) (w : W) : OR := OR.rec (motive := fun _ => Op → F → W → OR) (fun v w' _ _ _ => .val (acn v) w') (fun f vs w' _ _ _ => .call f vs w') (fun b vs w' _ _ _ => .yld b vs w')
 (fun v w' _ _ _ => .pan v w') (fun d w' _ _ _ => .dfr d w') (fun w' _ _ _ => .rcv w') (fun c o τ w => j6 (xOp o τ w c)) (fOp o τ w) o τ w
def zOp (o : Op) (τ : F) (w : W) : OR := j6 (match x9 o τ w with
 | .no c => xOp o τ w c
 | r => r)
def gD (o : Op) (τ : F) (w : W) : OR := OR.rec (motive := fun _ => Op → F → W → OR) (fun v w' _ _ _ => .val (acn v) w') (fun f vs w' _ _ _ => .call f vs w') (fun b vs w' _ _ _ => .yld b vs w')
 (fun v w' _ _ _ => .pan v w') (fun d w' _ _ _ => .dfr d w') (fun w' _ _ _ => .rcv w') (fun _ o τ w => zOp o τ w) (fOp o τ w) o τ w
end
end Go.Ev
