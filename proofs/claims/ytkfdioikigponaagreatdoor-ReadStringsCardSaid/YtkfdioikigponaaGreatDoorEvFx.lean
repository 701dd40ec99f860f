import Derived.Test.YtkfdioikigponaaGreatDoorEvF
set_option linter.all false
namespace Go.Ev
noncomputable section
def aOf : AV → List SA
 | .sym _ _ A => A
 | .gv (.str _ A) => A
 | .gv (.sl _ _ _ A) => A
 | .gv (.ptr _ _ _ _ A) => A
 | .gv (.sr _ _ _ A) => A
 | .gv (.pr _ _ _ A) => A
 | _ => []
def orA (A B : List SA) : List SA := match A with
 | [] => B
 | a :: l => a :: l
def vn : AV → Option SE
 | .int _ n => some (.c n)
 | .sym _ e _ => some e
 | _ => none
def knd : AV → Option IntKind
 | .int k _ => some k
 | .sym k _ _ => some k
 | _ => none
def jw : SE → SE → SE
 | .c m, .c n => .c (Int.add m n)
 | .bin 6 k a (.c m), .c n => .bin 6 k a (.c (Int.add m n))
 | .c 0, b => b
 | a, .c 0 => a
 | a, b => .bin 6 .i64 a b
def jf : GE → SE
 | .nil => .c 0
 | .one _ => .c 1
 | .cat a b => jw (jf a) (jf b)
 | .lit l _ => .c (.ofNat l)
 | g => .len g
def nb : GE → GE → GE
 | .nil, b => b
 | a, .nil => a
 | .lit l n, .lit l' n' => bc (Nat.blt n' (Nat.pow 256 l')) (.lit (l + l') (n * Nat.pow 256 l' + n')) (.cat (.lit l n) (.lit l' n'))
 | .cat a (.lit l n), .lit l' n' => bc (Nat.blt n' (Nat.pow 256 l')) (.cat a (.lit (l + l') (n * Nat.pow 256 l' + n'))) (.cat (.cat a (.lit l n)) (.lit l' n'))
 | a, b => .cat a b
def y2 (o : Option Bool) (b : Bool) : Bool := match o with
 | some c => zn c b
 | none => false
def dLt (a b : SE) (A : List SA) (r : Bool) : Bool := y2 (e9 true a b A) r
def a4b (es off : Nat) (i : SE) : SE := bc (Nat.beq es 1) (bc (Nat.beq off 0) i (jw i (.c (.ofNat off)))) (jw (.bin 7 .i64 (.c (.ofNat es)) i) (.c (.ofNat off)))
def ah6 (g : GE) (e : SE) : SE := .rd g e
def aoe (a b : SE) : Nat := aay (fun x => ib x 1) (ia a) (ia b)
def zq (a b : SE) : Nat := aay (fun x => ib x 0) (ia a) (ia b)
def kk (a b : SE) (A : List SA) (r : Bool) (c : Nat) (k : OR) : OR := match e9 true a b A with
 | some x => bc (zn x r) k (.no c)
 | none => .no (aoe a b)
def ak3 : AV → Option GE
 | .str l n => some (.lit l n)
 | .gv (.str g _) => some g
 | _ => none
def acu (ks : List IntKind) (g : GE) (es : Nat) (i : SE) (A : List SA) : Nat → Nat → Option (List AV)
 | 0, _ => some []
 | n + 1, off => match nth ks off with
   | some k => (acu ks g es i A n (off + 1)).map (.sym k (ah6 g (a4b es off i)) A :: ·)
   | none => none
def aq9 (t : TypeId) (o i o' n : SE) (g : GE) (A : List SA) (w : W) (c : Nat) : OR := match o with
 | .bin 6 _ a d => bc (fy a o') (kk a (.c 0) A false c (kk d (.c 0) A false c (kk (jw d i) n A true c (match vu t with
   | some none => .val (.sym .i64 (ah6 g (jw d i)) A) w
   | _ => .no c)))) (.no c)
 | _ => .no c
def au6 (t : TypeId) (p : AV) (w : W) (c : Nat) : OR := match p with
 | .gv (.ptr b es i off A) => (match db b w with
   | .gob (.gh _ ks n g) => bc (Nat.beq (b7 ks) es) (kk i n A true c (match vu t with
     | some none => (match acu ks g es i A 1 off with
       | some [v] => .val v w
       | _ => .no c)
     | some (some m) => (match acu ks g es i A m off with
       | some l => .val (.agg l) w
       | none => .no c)
     | none => .no c)) (.no c)
   | _ => .no c)
 | .gv (.pr b o i A) => (match db b w with
   | .gob (.rh o' n g) => bc (fy o o') (kk i n A true c (match vu t with
     | some none => .val (.sym .i64 (ah6 g i) A) w
     | _ => .no c)) (aq9 t o i o' n g A w c)
   | .gob (.rb o' n g) => bc (fy o o') (kk i n A true c (match vu t, e9 false (ah6 g i) (.c 0) A with
     | some none, some r => .val (.bool (!r)) w
     | some none, none => .no (af3 .eql (ah6 g i) (.c 0))
     | _, _ => .no c)) (.no c)
   | _ => .no c)
 | _ => .no c
def q9 (t : TypeId) (x i : AV) (w : W) (c : Nat) : OR := match x, vn i, ar t with
 | .gv (.sl b es n A), some e, some (.slice el) => bc (Nat.blt 0 es) (match sizeOf el with
   | some s => bc (Nat.beq s es) (kk e (.c 0) (orA A (aOf i)) false c (kk e n (orA A (aOf i)) true c (.val (.gv (.ptr b es e 0 (orA A (aOf i)))) w))) (.no c)
   | none => .no c) (.no c)
 | .gv (.sr b o n A), some e, some (.slice el) => (match sizeOf el with
   | some 1 => kk e (.c 0) (orA A (aOf i)) false c (kk e n (orA A (aOf i)) true c (.val (.gv (.pr b o e (orA A (aOf i)))) w))
   | _ => .no c)
 | _, _, _ => .no c
def alj (t : TypeId) (x i : AV) (w : W) (c : Nat) : OR := match ak3 x, vn i, ar t with
 | some g, some e, some .string => kk e (.c 0) (orA (aOf x) (aOf i)) false c (kk e (jf g) (orA (aOf x) (aOf i)) true c (.val (.sym .u8 (ah6 g e) (orA (aOf x) (aOf i))) w))
 | _, _, _ => .no c
def aha (op : BinOp) (g h : GE) (A : List SA) (w : W) (c : Nat) : OR := match op with
 | .add => kk (.c 9223372036854775807) (jf (nb g h)) A false c (.val (.gv (.str (nb g h) A)) w)
 | .eql => (match e9 false (.eqg g h) (.c 1) A with
   | some r => .val (.bool r) w
   | none => .no (zq (.eqg g h) (.c 1)))
 | .neq => (match e9 false (.eqg g h) (.c 1) A with
   | some r => .val (.bool (!r)) w
   | none => .no (zq (.eqg g h) (.c 1)))
 | _ => .no c
def az2 (op : BinOp) (k : IntKind) (a b : SE) (A : List SA) (w : W) (c : Nat) : OR := match op with
 | .and => .val (.sym k (.bin 8 k a b) A) w
 | .or => .val (.sym k (.bin 9 k a b) A) w
 | .xor => .val (.sym k (.bin 10 k a b) A) w
 | .andNot => .val (.sym k (.bin 13 k a b) A) w
 | _ => .no c
def arh (op : BinOp) (k : IntKind) (a b : SE) (A : List SA) (w : W) (c : Nat) : OR := match op with
 | .shl => kk b (.c 0) A false c (.val (.sym k (.bin 11 k a b) A) w)
 | .shr => kk b (.c 0) A false c (.val (.sym k (.bin 12 k a b) A) w)
 | _ => .no c
def b3l : BinOp → Bool
 | .shl | .shr => true
 | _ => false
def a3d (w : W) (A : List SA) : Nat → TypeId → AV → AV → Option Bool
 | 0, _, _, _ => none
 | d + 1, t, x, y => match ar t with
   | some (.int _) => (match vn x, vn y, knd x, knd y with
     | some a, some b, some k, some k' => bc (qp k k') (e9 false a b A) none
     | _, _, _, _ => none)
   | some .string => (match ak3 x, ak3 y with
     | some g, some h => e9 false (.eqg g h) (.c 1) A
     | _, _ => none)
   | some (.struct fs) => (match x, y with
     | .agg xs, .agg ys => bc (PP.stoodInHeld t) none (eqFields (a3d w A d) xs ys fs.toList)
     | _, _ => none)
   | _ => ajq w 8 t x y
def agA : AV → List SA
 | .agg l => firstAs l
 | v => aOf v
where firstAs : List AV → List SA
 | [] => []
 | v :: l => orA (aOf v) (firstAs l)
def an3 (A : List SA) : List AV → List AV → Nat
 | x :: l, y :: m => (match vn x, vn y with
   | some a, some b => (match e9 false a b A with
     | some true => an3 A l m
     | some false => 0
     | none => zq a b)
   | _, _ => an3 A l m)
 | _, _ => 0
def aee (r : Bool) (t : TypeId) (a b : AV) (w : W) (c : Nat) : OR := match a3d w (orA (agA a) (agA b)) 3 t a b with
 | some q => .val (.bool (bc r q (!q))) w
 | none => (match a, b with
   | .agg xs, .agg ys => (match an3 (orA (agA a) (agA b)) xs ys with
     | 0 => .no c
     | m => .no m)
   | _, _ => .no c)
def bhg : AV → Bool
 | .agg _ => true
 | _ => false
def a8m (op : BinOp) (t : TypeId) (x y : Operand) (a b : AV) (w : W) (c : Nat) : OR :=
 match ak3 a, ak3 b with
 | some g, some h => aha op g h (orA (aOf a) (aOf b)) w c
 | _, _ => match vn a, vn b, knd a, knd b with
   | some e, some f, some k, some k' => bc (b3l op) (arh op k e f (orA (aOf a) (aOf b)) w c) (bc (qp k k') (az2 op k e f (orA (aOf a) (aOf b)) w c) (.no c))
   | _, _, _, _ => bc (bhg a && bhg b && ua t x y a b) (match op with
     | .eql => aee true t a b w c
     | .neq => aee false t a b w c
     | _ => .no c) (.no c)
def arq (src dst : TypeId) (x : AV) (w : W) (c : Nat) : OR := match ar src, ar dst, x with
 | some _, some (.int k), .sym _ e A => .val (.sym k (.bin 0 k e (.c 0)) A) w
 | some _, some .string, .sym _ e A => .val (.gv (.str (.enc e) A)) w
 | some _, some .string, .gv (.str g A) => .val (.gv (.str g A)) w
 | _, _, _ => .no c
def boy (o : Option AV) (d : SE) : Option SE := match o with
 | none => some d
 | some v => vn v
def bpj (o : Option AV) : List SA := match o with
 | none => []
 | some v => aOf v
def ahp (t : TypeId) (x : AV) (lo hi mx : Option AV) (w : W) (c : Nat) : OR := match ar t, ak3 x, mx, boy lo (.c 0) with
 | some .string, some g, none, some l => (match boy hi (jf g) with
   | some h => (fun A => kk l (.c 0) A false c (kk h l A false c (kk (jf g) h A false c (.val (.gv (.str (.cut g l h) A)) w)))) (orA (aOf x) (orA (bpj lo) (bpj hi)))
   | none => .no c)
 | _, _, _, _ => .no c
def aqc (t : TypeId) (b : K) (lo hi mx : Option AV) (w : W) (c : Nat) : OR := match ar t, hi, mx with
 | some (.slice e), some h, some m => (match sizeOf e, jh (some m) 0 0, jh (some h) 0 0, jh lo 0 0 with
   | some _, some _, some _, some _ => .val (.slice b 0 0 0 none) w
   | _, _, _, _ => .no c)
 | _, _, _ => .no c
def age (t : TypeId) (b : K) (o n : SE) (A : List SA) (lo hi mx : Option AV) (w : W) (c : Nat) : OR := match ar t, lo, hi, mx with
 | some (.slice e), some l', some h', none => (match sizeOf e, vn l', vn h' with
   | some 1, some l, some (.bin 0 .i64 l2 (.c 1)) => bc (fy l2 l) ((fun B => kk o (.c 0) B false c (kk l (.c 0) B false c (kk (.bin 0 .i64 l2 (.c 1)) l B false c (kk l n B true c (.val (.gv (.sr b (jw o l) (.c 1) B)) w))))) (orA A (orA (aOf l') (aOf h')))) (.no c)
   | _, _, _ => .no c)
 | _, _, _, _ => .no c
def ajp (t : TypeId) (x : AV) (lo hi mx : Option AV) (w : W) (c : Nat) : OR := match x with
 | .gv (.sl b _ _ _) => aqc t b lo hi mx w c
 | .gv (.sr b o n A) => age t b o n A lo hi mx w c
 | _ => ahp t x lo hi mx w c
def ami (e : SE) (k : IntKind) (A : List SA) : List (AV × AV) → Nat ⊕ Option AV
 | [] => .inr none
 | p :: es => match p.1 with
   | .int k' n => bc (qp k k') (match e9 false e (.c n) A with
     | some true => .inr (some p.2)
     | some false => ami e k A es
     | none => .inl (zq e (.c n))) (.inl 0)
   | _ => .inl 0
def at6 (t : TypeId) (k : IntKind) : Bool := match ub t with
 | some (.int k') => qp k k'
 | _ => false
def ab3 (t : TypeId) : Bool := match ub t with
 | some .string => true
 | _ => false
def bc3 (ok : Bool) (z : AV) (w : W) (c : Nat) : Nat ⊕ Option AV → OR
 | .inr (some v) => qt ok v true w
 | .inr none => qt ok z false w
 | .inl 0 => .no c
 | .inl m => .no m
def abl (t : TypeId) (m k : AV) (ok : Bool) (w : W) (c : Nat) : OR := match m, mw t with
 | .map b, some z => (match db b w with
   | .map es => (match k with
     | .sym kd e A => bc (mj t && at6 t kd) (bc3 ok z w c (ami e kd A es)) (.no c)
     | _ => .no c)
   | .gob (.gmap mg) => (match ak3 k, z with
     | some g, .int .i64 0 => bc (mj t && ab3 t) (match e9 false (.mhas mg g) (.c 1) (aOf k) with
       | some true => qt ok (.sym .i64 (.mget mg g) (aOf k)) true w
       | some false => qt ok z false w
       | none => .no (zq (.mhas mg g) (.c 1))) (.no c)
     | _, _ => .no c)
   | _ => .no c)
 | _, _ => .no c
def ao4 (t : TypeId) (m k v : AV) (w : W) (c : Nat) : OR := match m with
 | .map b => (match db b w with
   | .gob (.gmap mg) => (match ak3 k, vn v, knd v with
     | some g, some e, some .i64 => bc (mj t && ab3 t) (match e9 false (.mhas mg g) (.c 1) (orA (aOf k) (aOf v)) with
       | some false => .val gx (wset b (.gob (.gmap (nb (.one e) (nb (.one (jf g)) (nb g mg))))) w)
       | some true => .no c
       | none => .no (zq (.mhas mg g) (.c 1))) (.no c)
     | _, _, _ => .no c)
   | _ => .no c)
 | _ => .no c
def avo (t : TypeId) (x : AV) (w : W) (c : Nat) : OR := match ar t, x with
 | some .string, .gv (.str g A) => ot (.gob (.iter g (.c 0) A)) a5t w
 | _, _ => .no c
def a70 (it : AV) (isString : Bool) (w : W) (c : Nat) : OR := match it, isString with
 | .ptr b 0, true => (match db b w with
   | .gob (.iter g pos A) => (match e9 true pos (jf g) A with
     | some true => .val (.tuple [.bool true, .sym .i64 pos A, .sym .i32 (.dr g pos) A]) (wset b (.gob (.iter g (jw pos (.dw g pos)) A)) w)
     | some false => .val (.tuple [.bool false]) w
     | none => .no (aoe pos (jf g)))
   | _ => .no c)
 | _, _ => .no c
def x6 (ks : List IntKind) : Nat → List AV → Bool
 | _, [] => true
 | i, v :: l => (match nth ks (i % b7 ks), knd v with
   | some k, some k' => bc (qp k k') (x6 ks (i + 1) l) false
   | _, _ => false)
def bsv : Int → Bool
 | .ofNat n => Nat.ble n 255
 | _ => false
def u8E (A : List SA) : SE → Bool
 | .c n => bsv n
 | .bin 0 .u8 _ _ => true
 | .bin 1 .u8 _ _ => true
 | .bin 8 .u8 _ _ => true
 | .bin 9 .u8 _ _ => true
 | e => dLt e (.c 0) A false && dLt e (.c 256) A true
def ati (ks : List IntKind) : Bool := match ks with
 | [.u8] => true
 | _ => false
def amc (A : List SA) : List AV → Bool
 | [] => true
 | v :: l => (match vn v with
   | some e => bc (u8E A e) (amc A l) false
   | none => false)
def so : List AV → GE
 | [] => .nil
 | v :: l => (match vn v with
   | some e => nb (.one e) (so l)
   | none => .nil)
def yz (l : List AV) : List SA := agA.firstAs l
def apk (b : K) (n : SE) (A : List SA) (w : W) (c : Nat) : OR := match db b w with
 | .gob (.gh _ ks n' g) => bc (fy n n' && ati ks) (.val (.gv (.str g A)) w) (.no c)
 | _ => .no c
def aih (src dst : TypeId) (x : AV) (w : W) (c : Nat) : OR := match ar src, ar dst with
 | some (.slice e), some .string => (match ar e, x with
   | some (.int .u8), .gv (.sl b _ n A) => apk b n A w c
   | some (.int .u8), x => (match qe 1 x w with
     | some l => bc (x6 [.u8] 0 l && amc (yz l) l) (.val (.gv (.str (so l) (yz l))) w) (.no c)
     | none => .no c)
   | _, _ => .no c)
 | _, _ => arq src dst x w c
def aur (el : TypeId) (b : K) (es : Nat) (n : SE) (A : List SA) (new : List AV) (m : Nat) (w : W) (c : Nat) : OR := match db b w with
 | .gob (.gh t ks n' g) => bc (Nat.beq t el && fy n n' && Nat.beq (b7 ks) es && x6 ks 0 new && (!ati ks || amc A new))
    (ot (.gob (.gh t ks (jw n (.c (.ofNat m))) (nb g (so new)))) (fun k => .gv (.sl k es (jw n (.c (.ofNat m))) A)) (wset b .none w)) (.no c)
 | .gob (.junk t) => bc (Nat.beq t el && aiq new) (ot (.gob (.junk t)) (fun k => .gv (.sl k es (jw n (.c (.ofNat m))) A)) (wset b .none w)) (.no c)
 | _ => .no c
def ask (el : TypeId) (b : K) (n : SE) (A : List SA) (h : GE) (w : W) (c : Nat) : OR := match db b w with
 | .gob (.gh t ks n' g) => bc (Nat.beq t el && fy n n' && ati ks)
    (ot (.gob (.gh t ks (jw n (jf h)) (nb g h))) (fun k => .gv (.sl k 1 (jw n (jf h)) A)) (wset b .none w)) (.no c)
 | _ => .no c
def ajz (t : TypeId) (xt : Option TypeId) (s x : AV) (w : W) (c : Nat) : OR :=
 bc (aj3 xt) (match ar t, s with
 | some (.slice e), .gv (.sl b es n A) => (match sizeOf e, (gg e).map (·.bytes), jc e with
   | some size, some bytes, some z => bc (lr z && Nat.beq (b7 (cellsOf z)) size && Nat.beq size es && Nat.blt 0 es && Nat.ble bytes 1000000)
     (match ak3 x with
       | some h => bc (Nat.beq es 1) (kk (.c 400000) (jw n (jf h)) (orA A (aOf x)) false c (ask e b n (orA A (aOf x)) h w c)) (.no c)
       | none => (match mq size x w with
         | some (m, new) => kk (.c 400000) (jw n (.c (.ofNat m))) (orA A (yz new)) false c (aur e b es n (orA A (yz new)) new m w c)
         | none => .no c)) (.no c)
   | _, _, _ => .no c)
 | _, _ => .no c) (.no c)
def aa4 (t : TypeId) (xt : Option TypeId) (b : K) (es : Nat) (n : SE) (A : List SA) (w : W) (c : Nat) : OR :=
 bc (aj3 xt) (match ar t with
 | some (.slice e) => (match sizeOf e, (gg e).map (·.bytes), jc e, db b w with
   | some size, some bytes, some z, .gob (.gh t' ks n' g) => bc (lr z && Nat.beq (b7 (cellsOf z)) size && Nat.beq size es && Nat.blt 0 es && Nat.ble bytes 1000000 && Nat.beq t' e && fy n n' && Nat.beq (b7 ks) es)
      (kk (.c 0) n A true c (kk (.c 400000) n A false c (ot (.gob (.gh t' ks n g)) (fun k => .gv (.sl k es n A)) w))) (.no c)
   | _, _, _, _ => .no c)
 | _ => .no c) (.no c)
def an1 (t : TypeId) (xt : Option TypeId) (s x : AV) (w : W) (c : Nat) : OR := match s, x with
 | .slice _ _ 0 0 none, .gv (.sl b es n A) => aa4 t xt b es n A w c
 | .nilSlice, .gv (.sl b es n A) => aa4 t xt b es n A w c
 | _, _ => ajz t xt s x w c
def a9y (t : TypeId) (x : AV) (w : W) (c : Nat) : OR := match ar t, x with
 | some .string, .gv (.str g A) => .val (.sym .i64 (jf g) A) w
 | some (.slice _), .gv (.sl _ _ n A) => .val (.sym .i64 n A) w
 | some (.slice _), .gv (.sr _ _ n A) => .val (.sym .i64 n A) w
 | _, _ => .no c
def axb (x : AV) (w : W) (c : Nat) : OR := match x with
 | .gv (.sl b es n A) => kk (.c 0) n A true c (.val (.gv (.ptr b es (.c 0) 0 A)) w)
 | _ => .no c
def alg (pt : TypeId) (p n : AV) (w : W) (c : Nat) : OR := match p, n with
 | .gv (.ptr b 1 (.c 0) 0 A), .sym .i64 e _ => (match db b w with
   | .gob (.gh t ks n' g) => bc (fy e n' && ati ks) (match ar pt, sizeOf t with
     | some (.pointer u), some s => bc (Nat.beq t u && Nat.beq s 1) (kk (.c 0) e A true c (kk (.c 400000) e A false c (.val (.gv (.str g A)) (wset b .none w)))) (.no c)
     | _, _ => .no c) (.no c)
   | _ => .no c)
 | _, _ => .no c
def wx (b : Builtin) (ts : List TypeId) (vs : List AV) (w : W) (c : Nat) : OR := match b, ts, vs with
 | .len, t :: _, [x] => a9y t x w c
 | .append, t :: ts, [s, x] => an1 t ts.head? s x w c
 | .unsafeString, [t, _], [p, n] => alg t p n w c
 | .unsafeSliceData, _, [x] => axb x w c
 | _, _, _ => .no c
def xOp (o : Op) (τ : F) (w : W) (c : Nat) : OR := match o with
 | .load t a => au6 t (evX a τ) w c
 | .indexAddr t x i => q9 t (evX x τ) (evX i τ) w c
 | .index t x i => alj t (evX x τ) (evX i τ) w c
 | .binOp op t x y _ => a8m op t x y (evX x τ) (evX y τ) w c
 | .convert s d x => aih s d (evX x τ) w c
 | .slice t x lo hi mx => ajp t (evX x τ) (lo.map fun y => evX y τ) (hi.map fun y => evX y τ) (mx.map fun y => evX y τ) w c
 | .lookup t m k ok => abl t (evX m τ) (evX k τ) ok w c
 | .mapUpdate t m k v => ao4 t (evX m τ) (evX k τ) (evX v τ) w c
 | .range t x => avo t (evX x τ) w c
 | .next it s => a70 (evX it τ) s w c
 | .call ⟨.builtin b, args, ts⟩ => wx b ts.toList (uu args.toList τ) w c
 | _ => .no c
def aam (e : SE) : List SA → Option Int
 | [] => none
 | .mk lt a b r :: l => match lt, b, r with
   | false, .c n, true => bc (fy e a) (some n) (aam e l)
   | _, _, _ => aam e l
def bk0 (o : Option Int) (k : IntKind) (e : SE) (A : List SA) : AV := match o with
 | some n => .int k n
 | none => .sym k e A
def aje : AV → AV
 | .sym k e A => bk0 (aam e A) k e A
 | v => v
def l8 : OR → OR
 | .val v w => .val (aje v) w
 | r => r
def gOp (o : Op) (τ : F) (w : W) : OR := OR.rec (motive := fun _ => Op → F → W → OR) (fun v w' _ _ _ => .val (aje v) w') (fun f vs w' _ _ _ => .call f vs w') (fun b vs w' _ _ _ => .yld b vs w')
 (fun v w' _ _ _ => .pan v w') (fun d w' _ _ _ => .dfr d w') (fun w' _ _ _ => .rcv w') (fun c o τ w => l8 (xOp o τ w c)) (fOp o τ w) o τ w
def zOp (o : Op) (τ : F) (w : W) : OR := l8 (match ad5 o τ w with
 | .no c => xOp o τ w c
 | r => r)
def gD (o : Op) (τ : F) (w : W) : OR := OR.rec (motive := fun _ => Op → F → W → OR) (fun v w' _ _ _ => .val (aje v) w') (fun f vs w' _ _ _ => .call f vs w') (fun b vs w' _ _ _ => .yld b vs w')
 (fun v w' _ _ _ => .pan v w') (fun d w' _ _ _ => .dfr d w') (fun w' _ _ _ => .rcv w') (fun _ o τ w => zOp o τ w) (fOp o τ w) o τ w
end
end Go.Ev
