import Derived.Test.YtocilenpboklbaaGreatDoorEvF
set_option linter.all false
namespace Go.Ev
noncomputable section
def aOf : AV → List SA
 | .sym _ _ A => A
 | .gv (.str _ A) => A
 | .gv (.sl _ _ _ A) => A
 | .gv (.ptr _ _ _ _ A) => A
 | .gv (.sr _ _ _ A) => A
 | .gv (.pr _ _ _ A) => A
 | _ => []
def orA (A B : List SA) : List SA := match A with
 | [] => B
 | a :: l => a :: l
def vu : AV → Option SE
 | .int _ n => some (.c n)
 | .sym _ e _ => some e
 | _ => none
def knd : AV → Option IntKind
 | .int k _ => some k
 | .sym k _ _ => some k
 | _ => none
def jy : SE → SE → SE
 | .c m, .c n => .c (Int.add m n)
 | .bin 6 k a (.c m), .c n => .bin 6 k a (.c (Int.add m n))
 | .c 0, b => b
 | a, .c 0 => a
 | a, b => .bin 6 .i64 a b
def fg : GE → SE
 | .nil => .c 0
 | .one _ => .c 1
 | .cat a b => jy (fg a) (fg b)
 | .lit l _ => .c (.ofNat l)
 | g => .len g
def mw : GE → GE → GE
 | .nil, b => b
 | a, .nil => a
 | .lit l n, .lit l' n' => bc (Nat.blt n' (Nat.pow 256 l')) (.lit (l + l') (n * Nat.pow 256 l' + n')) (.cat (.lit l n) (.lit l' n'))
 | .cat a (.lit l n), .lit l' n' => bc (Nat.blt n' (Nat.pow 256 l')) (.cat a (.lit (l + l') (n * Nat.pow 256 l' + n'))) (.cat (.cat a (.lit l n)) (.lit l' n'))
 | a, b => .cat a b
def yc (o : Option Bool) (b : Bool) : Bool := match o with
 | some c => zi c b
 | none => false
def dLt (a b : SE) (A : List SA) (r : Bool) : Bool := yc (dy true a b A) r
def azb (es off : Nat) (i : SE) : SE := bc (Nat.beq es 1) (bc (Nat.beq off 0) i (jy i (.c (.ofNat off)))) (jy (.bin 7 .i64 (.c (.ofNat es)) i) (.c (.ofNat off)))
def aj1 (g : GE) (e : SE) : SE := .rd g e
def aji (a b : SE) : Nat := ab5 (fun x => gz x 1) (gx a) (gx b)
def aah (a b : SE) : Nat := ab5 (fun x => gz x 0) (gx a) (gx b)
def j9 (a b : SE) (A : List SA) (r : Bool) (c : Nat) (k : OR) : OR := match dy true a b A with
 | some x => bc (zi x r) k (.no c)
 | none => .no (aji a b)
def akd : AV → Option GE
 | .str l n => some (.lit l n)
 | .gv (.str g _) => some g
 | _ => none
def aa8 (ks : List IntKind) (g : GE) (es : Nat) (i : SE) (A : List SA) : Nat → Nat → Option (List AV)
 | 0, _ => some []
 | n + 1, off => match nth ks off with
   | some k => (aa8 ks g es i A n (off + 1)).map (.sym k (aj1 g (azb es off i)) A :: ·)
   | none => none
def apo (t : TypeId) (o i o' n : SE) (g : GE) (A : List SA) (w : W) (c : Nat) : OR := match o with
 | .bin 6 _ a d => bc (fq a o') (j9 a (.c 0) A false c (j9 d (.c 0) A false c (j9 (jy d i) n A true c (match vz t with
   | some none => .val (.sym .i64 (aj1 g (jy d i)) A) w
   | _ => .no c)))) (.no c)
 | _ => .no c
def avu (t : TypeId) (p : AV) (w : W) (c : Nat) : OR := match p with
 | .gv (.ptr b es i off A) => (match cu b w with
   | .gob (.gh _ ks n g) => bc (Nat.beq (bq ks) es) (j9 i n A true c (match vz t with
     | some none => (match aa8 ks g es i A 1 off with
       | some [v] => .val v w
       | _ => .no c)
     | some (some m) => (match aa8 ks g es i A m off with
       | some l => .val (.agg l) w
       | none => .no c)
     | none => .no c)) (.no c)
   | _ => .no c)
 | .gv (.pr b o i A) => (match cu b w with
   | .gob (.rh o' n g) => bc (fq o o') (j9 i n A true c (match vz t with
     | some none => .val (.sym .i64 (aj1 g i) A) w
     | _ => .no c)) (apo t o i o' n g A w c)
   | .gob (.rb o' n g) => bc (fq o o') (j9 i n A true c (match vz t, dy false (aj1 g i) (.c 0) A with
     | some none, some r => .val (.bool (!r)) w
     | some none, none => .no (af9 .eql (aj1 g i) (.c 0))
     | _, _ => .no c)) (.no c)
   | _ => .no c)
 | _ => .no c
def qs (t : TypeId) (x i : AV) (w : W) (c : Nat) : OR := match x, vu i, aq t with
 | .gv (.sl b es n A), some e, some (.slice el) => bc (Nat.blt 0 es) (match sizeOf el with
   | some s => bc (Nat.beq s es) (j9 e (.c 0) (orA A (aOf i)) false c (j9 e n (orA A (aOf i)) true c (.val (.gv (.ptr b es e 0 (orA A (aOf i)))) w))) (.no c)
   | none => .no c) (.no c)
 | .gv (.sr b o n A), some e, some (.slice el) => (match sizeOf el with
   | some 1 => j9 e (.c 0) (orA A (aOf i)) false c (j9 e n (orA A (aOf i)) true c (.val (.gv (.pr b o e (orA A (aOf i)))) w))
   | _ => .no c)
 | _, _, _ => .no c
def akq (t : TypeId) (x i : AV) (w : W) (c : Nat) : OR := match akd x, vu i, aq t with
 | some g, some e, some .string => j9 e (.c 0) (orA (aOf x) (aOf i)) false c (j9 e (fg g) (orA (aOf x) (aOf i)) true c (.val (.sym .u8 (aj1 g e) (orA (aOf x) (aOf i))) w))
 | _, _, _ => .no c
def ag3 (op : BinOp) (g h : GE) (A : List SA) (w : W) (c : Nat) : OR := match op with
 | .add => j9 (.c 9223372036854775807) (fg (mw g h)) A false c (.val (.gv (.str (mw g h) A)) w)
 | .eql => (match dy false (.eqg g h) (.c 1) A with
   | some r => .val (.bool r) w
   | none => .no (aah (.eqg g h) (.c 1)))
 | .neq => (match dy false (.eqg g h) (.c 1) A with
   | some r => .val (.bool (!r)) w
   | none => .no (aah (.eqg g h) (.c 1)))
 | _ => .no c
def a0x (op : BinOp) (k : IntKind) (a b : SE) (A : List SA) (w : W) (c : Nat) : OR := match op with
 | .and => .val (.sym k (.bin 8 k a b) A) w
 | .or => .val (.sym k (.bin 9 k a b) A) w
 | .xor => .val (.sym k (.bin 10 k a b) A) w
 | .andNot => .val (.sym k (.bin 13 k a b) A) w
 | _ => .no c
def aq5 (op : BinOp) (k : IntKind) (a b : SE) (A : List SA) (w : W) (c : Nat) : OR := match op with
 | .shl => j9 b (.c 0) A false c (.val (.sym k (.bin 11 k a b) A) w)
 | .shr => j9 b (.c 0) A false c (.val (.sym k (.bin 12 k a b) A) w)
 | _ => .no c
def b0i : BinOp → Bool
 | .shl | .shr => true
 | _ => false
def a0y (w : W) (A : List SA) : Nat → TypeId → AV → AV → Option Bool
 | 0, _, _, _ => none
 | d + 1, t, x, y => match aq t with
   | some (.int _) => (match vu x, vu y, knd x, knd y with
     | some a, some b, some k, some k' => bc (qg k k') (dy false a b A) none
     | _, _, _, _ => none)
   | some .string => (match akd x, akd y with
     | some g, some h => dy false (.eqg g h) (.c 1) A
     | _, _ => none)
   | some (.struct fs) => (match x, y with
     | .agg xs, .agg ys => bc (PP.stoodInHeld t) none (eqFields (a0y w A d) xs ys fs.toList)
     | _, _ => none)
   | _ => air w 8 t x y
def agA : AV → List SA
 | .agg l => firstAs l
 | v => aOf v
where firstAs : List AV → List SA
 | [] => []
 | v :: l => orA (aOf v) (firstAs l)
def apn (A : List SA) : List AV → List AV → Nat
 | x :: l, y :: m => (match vu x, vu y with
   | some a, some b => (match dy false a b A with
     | some true => apn A l m
     | some false => 0
     | none => aah a b)
   | _, _ => apn A l m)
 | _, _ => 0
def aer (r : Bool) (t : TypeId) (a b : AV) (w : W) (c : Nat) : OR := match a0y w (orA (agA a) (agA b)) 3 t a b with
 | some q => .val (.bool (bc r q (!q))) w
 | none => (match a, b with
   | .agg xs, .agg ys => (match apn (orA (agA a) (agA b)) xs ys with
     | 0 => .no c
     | m => .no m)
   | _, _ => .no c)
def bfv : AV → Bool
 | .agg _ => true
 | _ => false
def bc2 (op : BinOp) (t : TypeId) (x y : Operand) (a b : AV) (w : W) (c : Nat) : OR :=
 match akd a, akd b with
 | some g, some h => ag3 op g h (orA (aOf a) (aOf b)) w c
 | _, _ => match vu a, vu b, knd a, knd b with
   | some e, some f, some k, some k' => bc (b0i op) (aq5 op k e f (orA (aOf a) (aOf b)) w c) (bc (qg k k') (a0x op k e f (orA (aOf a) (aOf b)) w c) (.no c))
   | _, _, _, _ => bc (bfv a && bfv b && uv t x y a b) (match op with
     | .eql => aer true t a b w c
     | .neq => aer false t a b w c
     | _ => .no c) (.no c)
def avt (src dst : TypeId) (x : AV) (w : W) (c : Nat) : OR := match aq src, aq dst, x with
 | some _, some (.int k), .sym _ e A => .val (.sym k (.bin 0 k e (.c 0)) A) w
 | some _, some .string, .sym _ e A => .val (.gv (.str (.enc e) A)) w
 | some _, some .string, .gv (.str g A) => .val (.gv (.str g A)) w
 | _, _, _ => .no c
def boe (o : Option AV) (d : SE) : Option SE := match o with
 | none => some d
 | some v => vu v
def bn8 (o : Option AV) : List SA := match o with
 | none => []
 | some v => aOf v
def ag2 (t : TypeId) (x : AV) (lo hi mx : Option AV) (w : W) (c : Nat) : OR := match aq t, akd x, mx, boe lo (.c 0) with
 | some .string, some g, none, some l => (match boe hi (fg g) with
   | some h => (fun A => j9 l (.c 0) A false c (j9 h l A false c (j9 (fg g) h A false c (.val (.gv (.str (.cut g l h) A)) w)))) (orA (aOf x) (orA (bn8 lo) (bn8 hi)))
   | none => .no c)
 | _, _, _, _ => .no c
def aq6 (t : TypeId) (b : K) (lo hi mx : Option AV) (w : W) (c : Nat) : OR := match aq t, hi, mx with
 | some (.slice e), some h, some m => (match sizeOf e, je (some m) 0 0, je (some h) 0 0, je lo 0 0 with
   | some _, some _, some _, some _ => .val (.slice b 0 0 0 none) w
   | _, _, _, _ => .no c)
 | _, _, _ => .no c
def ag1 (t : TypeId) (b : K) (o n : SE) (A : List SA) (lo hi mx : Option AV) (w : W) (c : Nat) : OR := match aq t, lo, hi, mx with
 | some (.slice e), some l', some h', none => (match sizeOf e, vu l', vu h' with
   | some 1, some l, some (.bin 0 .i64 l2 (.c 1)) => bc (fq l2 l) ((fun B => j9 o (.c 0) B false c (j9 l (.c 0) B false c (j9 (.bin 0 .i64 l2 (.c 1)) l B false c (j9 l n B true c (.val (.gv (.sr b (jy o l) (.c 1) B)) w))))) (orA A (orA (aOf l') (aOf h')))) (.no c)
   | _, _, _ => .no c)
 | _, _, _, _ => .no c
def akx (t : TypeId) (x : AV) (lo hi mx : Option AV) (w : W) (c : Nat) : OR := match x with
 | .gv (.sl b _ _ _) => aq6 t b lo hi mx w c
 | .gv (.sr b o n A) => ag1 t b o n A lo hi mx w c
 | _ => ag2 t x lo hi mx w c
def al5 (e : SE) (k : IntKind) (A : List SA) : List (AV × AV) → Nat ⊕ Option AV
 | [] => .inr none
 | p :: es => match p.1 with
   | .int k' n => bc (qg k k') (match dy false e (.c n) A with
     | some true => .inr (some p.2)
     | some false => al5 e k A es
     | none => .inl (aah e (.c n))) (.inl 0)
   | _ => .inl 0
def atv (t : TypeId) (k : IntKind) : Bool := match uw t with
 | some (.int k') => qg k k'
 | _ => false
def abz (t : TypeId) : Bool := match uw t with
 | some .string => true
 | _ => false
def a9z (ok : Bool) (z : AV) (w : W) (c : Nat) : Nat ⊕ Option AV → OR
 | .inr (some v) => qi ok v true w
 | .inr none => qi ok z false w
 | .inl 0 => .no c
 | .inl m => .no m
def acm (t : TypeId) (m k : AV) (ok : Bool) (w : W) (c : Nat) : OR := match m, md t with
 | .map b, some z => (match cu b w with
   | .map es => (match k with
     | .sym kd e A => bc (mj t && atv t kd) (a9z ok z w c (al5 e kd A es)) (.no c)
     | _ => .no c)
   | .gob (.gmap mg) => (match akd k, z with
     | some g, .int .i64 0 => bc (mj t && abz t) (match dy false (.mhas mg g) (.c 1) (aOf k) with
       | some true => qi ok (.sym .i64 (.mget mg g) (aOf k)) true w
       | some false => qi ok z false w
       | none => .no (aah (.mhas mg g) (.c 1))) (.no c)
     | _, _ => .no c)
   | _ => .no c)
 | _, _ => .no c
def asf (t : TypeId) (m k v : AV) (w : W) (c : Nat) : OR := match m with
 | .map b => (match cu b w with
   | .gob (.gmap mg) => (match akd k, vu v, knd v with
     | some g, some e, some .i64 => bc (mj t && abz t) (match dy false (.mhas mg g) (.c 1) (orA (aOf k) (aOf v)) with
       | some false => .val gu (wset b (.gob (.gmap (mw (.one e) (mw (.one (fg g)) (mw g mg))))) w)
       | some true => .no c
       | none => .no (aah (.mhas mg g) (.c 1))) (.no c)
     | _, _, _ => .no c)
   | _ => .no c)
 | _ => .no c
def ayj (t : TypeId) (x : AV) (w : W) (c : Nat) : OR := match aq t, x with
 | some .string, .gv (.str g A) => n9 (.gob (.iter g (.c 0) A)) a6o w
 | _, _ => .no c
def bc7 (it : AV) (isString : Bool) (w : W) (c : Nat) : OR := match it, isString with
 | .ptr b 0, true => (match cu b w with
   | .gob (.iter g pos A) => (match dy true pos (fg g) A with
     | some true => .val (.tuple [.bool true, .sym .i64 pos A, .sym .i32 (.dr g pos) A]) (wset b (.gob (.iter g (jy pos (.dw g pos)) A)) w)
     | some false => .val (.tuple [.bool false]) w
     | none => .no (aji pos (fg g)))
   | _ => .no c)
 | _, _ => .no c
def ye (ks : List IntKind) : Nat → List AV → Bool
 | _, [] => true
 | i, v :: l => (match nth ks (i % bq ks), knd v with
   | some k, some k' => bc (qg k k') (ye ks (i + 1) l) false
   | _, _ => false)
def btq : Int → Bool
 | .ofNat n => Nat.ble n 255
 | _ => false
def u8E (A : List SA) : SE → Bool
 | .c n => btq n
 | .bin 0 .u8 _ _ => true
 | .bin 1 .u8 _ _ => true
 | .bin 8 .u8 _ _ => true
 | .bin 9 .u8 _ _ => true
 | e => dLt e (.c 0) A false && dLt e (.c 256) A true
def atw (ks : List IntKind) : Bool := match ks with
 | [.u8] => true
 | _ => false
def am8 (A : List SA) : List AV → Bool
 | [] => true
 | v :: l => (match vu v with
   | some e => bc (u8E A e) (am8 A l) false
   | none => false)
def rt : List AV → GE
 | [] => .nil
 | v :: l => (match vu v with
   | some e => mw (.one e) (rt l)
   | none => .nil)
def xo (l : List AV) : List SA := agA.firstAs l
def apm (b : K) (n : SE) (A : List SA) (w : W) (c : Nat) : OR := match cu b w with
 | .gob (.gh _ ks n' g) => bc (fq n n' && atw ks) (.val (.gv (.str g A)) w) (.no c)
 | _ => .no c
def akp (src dst : TypeId) (x : AV) (w : W) (c : Nat) : OR := match aq src, aq dst with
 | some (.slice e), some .string => (match aq e, x with
   | some (.int .u8), .gv (.sl b _ n A) => apm b n A w c
   | some (.int .u8), x => (match po 1 x w with
     | some l => bc (ye [.u8] 0 l && am8 (xo l) l) (.val (.gv (.str (rt l) (xo l))) w) (.no c)
     | none => .no c)
   | _, _ => .no c)
 | _, _ => avt src dst x w c
def avn (el : TypeId) (b : K) (es : Nat) (n : SE) (A : List SA) (new : List AV) (m : Nat) (w : W) (c : Nat) : OR := match cu b w with
 | .gob (.gh t ks n' g) => bc (Nat.beq t el && fq n n' && Nat.beq (bq ks) es && ye ks 0 new && (!atw ks || am8 A new))
    (n9 (.gob (.gh t ks (jy n (.c (.ofNat m))) (mw g (rt new)))) (fun k => .gv (.sl k es (jy n (.c (.ofNat m))) A)) (wset b .none w)) (.no c)
 | .gob (.junk t) => bc (Nat.beq t el && ahv new) (n9 (.gob (.junk t)) (fun k => .gv (.sl k es (jy n (.c (.ofNat m))) A)) (wset b .none w)) (.no c)
 | _ => .no c
def avq (el : TypeId) (b : K) (n : SE) (A : List SA) (h : GE) (w : W) (c : Nat) : OR := match cu b w with
 | .gob (.gh t ks n' g) => bc (Nat.beq t el && fq n n' && atw ks)
    (n9 (.gob (.gh t ks (jy n (fg h)) (mw g h))) (fun k => .gv (.sl k 1 (jy n (fg h)) A)) (wset b .none w)) (.no c)
 | _ => .no c
def ako (t : TypeId) (xt : Option TypeId) (s x : AV) (w : W) (c : Nat) : OR :=
 bc (afr xt) (match aq t, s with
 | some (.slice e), .gv (.sl b es n A) => (match sizeOf e, (fj e).map (·.bytes), il e with
   | some size, some bytes, some z => bc (ki z && Nat.beq (bq (cellsOf z)) size && Nat.beq size es && Nat.blt 0 es && Nat.ble bytes 1000000)
     (match akd x with
       | some h => bc (Nat.beq es 1) (j9 (.c 400000) (jy n (fg h)) (orA A (aOf x)) false c (avq e b n (orA A (aOf x)) h w c)) (.no c)
       | none => (match ml size x w with
         | some (m, new) => j9 (.c 400000) (jy n (.c (.ofNat m))) (orA A (xo new)) false c (avn e b es n (orA A (xo new)) new m w c)
         | none => .no c)) (.no c)
   | _, _, _ => .no c)
 | _, _ => .no c) (.no c)
def acl (t : TypeId) (xt : Option TypeId) (b : K) (es : Nat) (n : SE) (A : List SA) (w : W) (c : Nat) : OR :=
 bc (afr xt) (match aq t with
 | some (.slice e) => (match sizeOf e, (fj e).map (·.bytes), il e, cu b w with
   | some size, some bytes, some z, .gob (.gh t' ks n' g) => bc (ki z && Nat.beq (bq (cellsOf z)) size && Nat.beq size es && Nat.blt 0 es && Nat.ble bytes 1000000 && Nat.beq t' e && fq n n' && Nat.beq (bq ks) es)
      (j9 (.c 0) n A true c (j9 (.c 400000) n A false c (n9 (.gob (.gh t' ks n g)) (fun k => .gv (.sl k es n A)) w))) (.no c)
   | _, _, _, _ => .no c)
 | _ => .no c) (.no c)
def akn (t : TypeId) (xt : Option TypeId) (h : GE) (A : List SA) (w : W) (c : Nat) : OR :=
 bc (afr xt) (match aq t with
 | some (.slice e) => (match sizeOf e, (fj e).map (·.bytes), il e with
   | some size, some bytes, some z => bc (ki z && Nat.beq (bq (cellsOf z)) size && Nat.beq size 1 && Nat.ble bytes 1000000)
      (match dy true (.c 0) (fg h) A with
        | some true => j9 (.c 400000) (fg h) A false c (n9 (.gob (.gh e [.u8] (fg h) h)) (fun k => .gv (.sl k 1 (fg h) A)) w)
        | some false => .val .nilSlice w
        | none => .no (aji (.c 0) (fg h))) (.no c)
   | _, _, _ => .no c)
 | _ => .no c) (.no c)
def apl (t : TypeId) (xt : Option TypeId) (s x : AV) (w : W) (c : Nat) : OR := match s, x with
 | .slice _ _ 0 0 none, .gv (.sl b es n A) => acl t xt b es n A w c
 | .nilSlice, .gv (.sl b es n A) => acl t xt b es n A w c
 | .nilSlice, .gv (.str h A) => akn t xt h A w c
 | _, _ => ako t xt s x w c
def bc5 (t : TypeId) (x : AV) (w : W) (c : Nat) : OR := match aq t, x with
 | some .string, .gv (.str g A) => .val (.sym .i64 (fg g) A) w
 | some (.slice _), .gv (.sl _ _ n A) => .val (.sym .i64 n A) w
 | some (.slice _), .gv (.sr _ _ n A) => .val (.sym .i64 n A) w
 | _, _ => .no c
def ayo (x : AV) (w : W) (c : Nat) : OR := match x with
 | .gv (.sl b es n A) => j9 (.c 0) n A true c (.val (.gv (.ptr b es (.c 0) 0 A)) w)
 | _ => .no c
def ak5 (pt : TypeId) (p n : AV) (w : W) (c : Nat) : OR := match p, n with
 | .gv (.ptr b 1 (.c 0) 0 A), .sym .i64 e _ => (match cu b w with
   | .gob (.gh t ks n' g) => bc (fq e n' && atw ks) (match aq pt, sizeOf t with
     | some (.pointer u), some s => bc (Nat.beq t u && Nat.beq s 1) (j9 (.c 0) e A true c (j9 (.c 400000) e A false c (.val (.gv (.str g A)) (wset b .none w)))) (.no c)
     | _, _ => .no c) (.no c)
   | _ => .no c)
 | _, _ => .no c
def xf (b : Builtin) (ts : List TypeId) (vs : List AV) (w : W) (c : Nat) : OR := match b, ts, vs with
 | .len, t :: _, [x] => bc5 t x w c
 | .append, t :: ts, [s, x] => apl t ts.head? s x w c
 | .unsafeString, [t, _], [p, n] => ak5 t p n w c
 | .unsafeSliceData, _, [x] => ayo x w c
 | _, _, _ => .no c
def xOp (o : Op) (τ : F) (w : W) (c : Nat) : OR := match o with
 | .load t a => avu t (evX a τ) w c
 | .indexAddr t x i => qs t (evX x τ) (evX i τ) w c
 | .index t x i => akq t (evX x τ) (evX i τ) w c
 | .binOp op t x y _ => bc2 op t x y (evX x τ) (evX y τ) w c
 | .convert s d x => akp s d (evX x τ) w c
 | .slice t x lo hi mx => akx t (evX x τ) (lo.map fun y => evX y τ) (hi.map fun y => evX y τ) (mx.map fun y => evX y τ) w c
 | .lookup t m k ok => acm t (evX m τ) (evX k τ) ok w c
 | .mapUpdate t m k v => asf t (evX m τ) (evX k τ) (evX v τ) w c
 | .range t x => ayj t (evX x τ) w c
 | .next it s => bc7 (evX it τ) s w c
 | .call ⟨.builtin b, args, ts⟩ => xf b ts.toList (ut args.toList τ) w c
 | _ => .no c
def aad (e : SE) : List SA → Option Int
 | [] => none
 | .mk lt a b r :: l => match lt, b, r with
   | false, .c n, true => bc (fq e a) (some n) (aad e l)
   | _, _, _ => aad e l
def bl8 (o : Option Int) (k : IntKind) (e : SE) (A : List SA) : AV := match o with
 | some n => .int k n
 | none => .sym k e A
def ajl : AV → AV
 | .sym k e A => bl8 (aad e A) k e A
 | v => v
def lx : OR → OR
 | .val v w => .val (ajl v) w
 | r => r
def gOp (o : Op) (τ : F) (w : W) : OR := OR.rec (motive := fun _ => Op → F → W → OR) (fun v w' _ _ _ => .val (ajl v) w') (fun f vs w' _ _ _ => .call f vs w') (fun b vs w' _ _ _ => .yld b vs w')
 (fun v w' _ _ _ => .pan v w') (fun d w' _ _ _ => .dfr d w') (fun w' _ _ _ => .rcv w') (fun c o τ w => lx (xOp o τ w c)) (fOp o τ w) o τ w
def zOp (o : Op) (τ : F) (w : W) : OR := lx (match adr o τ w with
 | .no c => xOp o τ w c
 | r => r)
def gD (o : Op) (τ : F) (w : W) : OR := OR.rec (motive := fun _ => Op → F → W → OR) (fun v w' _ _ _ => .val (ajl v) w') (fun f vs w' _ _ _ => .call f vs w') (fun b vs w' _ _ _ => .yld b vs w')
 (fun v w' _ _ _ => .pan v w') (fun d w' _ _ _ => .dfr d w') (fun w' _ _ _ => .rcv w') (fun _ o τ w => zOp o τ w) (fOp o τ w) o τ w
end
end Go.Ev
