import Derived.Test.YtocilenpboklbaaGreatDoorEvF
set_option linter.all false
namespace Go.Ev
noncomputable section
def aOf : AV → List SA
 | .sym _ _ A => A
 | .gv (.str _ A) => A
 | .gv (.sl _ _ _ A) => A
 | .gv (.ptr _ _ _ _ A) => A
 | .gv (.sr _ _ _ A) => A
 | .gv (.pr _ _ _ A) => A
 | _ => []
def orA (A B : List SA) : List SA := match A with
 | [] => B
 | a :: l => a :: l
def w8 : AV → Option SE
 | .int _ n => some (.c n)
 | .sym _ e _ => some e
 | _ => none
def knd : AV → Option IntKind
 | .int k _ => some k
 | .sym k _ _ => some k
 | _ => none
def ka : SE → SE → SE
 | .c m, .c n => .c (Int.add m n)
 | .bin 6 k a (.c m), .c n => .bin 6 k a (.c (Int.add m n))
 | .c 0, b => b
 | a, .c 0 => a
 | a, b => .bin 6 .i64 a b
def ir : GE → SE
 | .nil => .c 0
 | .one _ => .c 1
 | .cat a b => ka (ir a) (ir b)
 | .lit l _ => .c (.ofNat l)
 | g => .len g
def n9 : GE → GE → GE
 | .nil, b => b
 | a, .nil => a
 | .lit l n, .lit l' n' => bc (Nat.blt n' (Nat.pow 256 l')) (.lit (l + l') (n * Nat.pow 256 l' + n')) (.cat (.lit l n) (.lit l' n'))
 | .cat a (.lit l n), .lit l' n' => bc (Nat.blt n' (Nat.pow 256 l')) (.cat a (.lit (l + l') (n * Nat.pow 256 l' + n'))) (.cat (.cat a (.lit l n)) (.lit l' n'))
 | a, b => .cat a b
def y6 (o : Option Bool) (b : Bool) : Bool := match o with
 | some c => aab c b
 | none => false
def dLt (a b : SE) (A : List SA) (r : Bool) : Bool := y6 (gn true a b A) r
def av9 (es off : Nat) (i : SE) : SE := bc (Nat.beq es 1) (bc (Nat.beq off 0) i (ka i (.c (.ofNat off)))) (ka (.bin 7 .i64 (.c (.ofNat es)) i) (.c (.ofNat off)))
def ajg (g : GE) (e : SE) : SE := .rd g e
def ait (a b : SE) : Nat := acg (fun x => js x 1) (jq a) (jq b)
def aat (a b : SE) : Nat := acg (fun x => js x 0) (jq a) (jq b)
def ll (a b : SE) (A : List SA) (r : Bool) (c : Nat) (k : OR) : OR := match gn true a b A with
 | some x => bc (aab x r) k (.no c)
 | none => .no (ait a b)
def ajt : AV → Option GE
 | .str l n => some (.lit l n)
 | .gv (.str g _) => some g
 | _ => none
def abj (ks : List IntKind) (g : GE) (es : Nat) (i : SE) (A : List SA) : Nat → Nat → Option (List AV)
 | 0, _ => some []
 | n + 1, off => match nth ks off with
   | some k => (abj ks g es i A n (off + 1)).map (.sym k (ajg g (av9 es off i)) A :: ·)
   | none => none
def apn (t : TypeId) (o i o' n : SE) (g : GE) (A : List SA) (w : W) (c : Nat) : OR := match o with
 | .bin 6 _ a d => bc (ij a o') (ll a (.c 0) A false c (ll d (.c 0) A false c (ll (ka d i) n A true c (match qs t with
   | some none => .val (.sym .i64 (ajg g (ka d i)) A) w
   | _ => .no c)))) (.no c)
 | _ => .no c
def am7 (i : SE) : List GP → Option AV
 | [] => none
 | .mk e t k :: l => bc (ij i e) (some (.iface t (.ptr k 0))) (am7 i l)
def apm (t : TypeId) (es off : Nat) (i : SE) (ps : List GP) (w : W) (c : Nat) : OR := bc (Nat.beq es 1 && Nat.beq off 0) (match qs t, am7 i ps with
 | some none, some v => .val v w
 | _, _ => .no c) (.no c)
def atc (t : TypeId) (p : AV) (w : W) (c : Nat) : OR := match p with
 | .gv (.ptr b es i off A) => (match eo b w with
   | .gob (.gh _ ks n g) => bc (Nat.beq (cx ks) es) (ll i n A true c (match qs t with
     | some none => (match abj ks g es i A 1 off with
       | some [v] => .val v w
       | _ => .no c)
     | some (some m) => (match abj ks g es i A m off with
       | some l => .val (.agg l) w
       | none => .no c)
     | none => .no c)) (.no c)
   | .gp _ _ _ _ ps => apm t es off i ps w c
   | _ => .no c)
 | .gv (.pr b o i A) => (match eo b w with
   | .gob (.rh o' n g) => bc (ij o o') (ll i n A true c (match qs t with
     | some none => .val (.sym .i64 (ajg g i) A) w
     | _ => .no c)) (apn t o i o' n g A w c)
   | .gob (.rb o' n g) => bc (ij o o') (ll i n A true c (match qs t, gn false (ajg g i) (.c 0) A with
     | some none, some r => .val (.bool (!r)) w
     | some none, none => .no (af0 .eql (ajg g i) (.c 0))
     | _, _ => .no c)) (.no c)
   | _ => .no c)
 | _ => .no c
def sa (t : TypeId) (x i : AV) (w : W) (c : Nat) : OR := match x, w8 i, be t with
 | .gv (.sl b es n A), some e, some (.slice el) => bc (Nat.blt 0 es) (match sizeOf el with
   | some s => bc (Nat.beq s es) (ll e (.c 0) (orA A (aOf i)) false c (ll e n (orA A (aOf i)) true c (.val (.gv (.ptr b es e 0 (orA A (aOf i)))) w))) (.no c)
   | none => .no c) (.no c)
 | .gv (.sr b o n A), some e, some (.slice el) => (match sizeOf el with
   | some 1 => ll e (.c 0) (orA A (aOf i)) false c (ll e n (orA A (aOf i)) true c (.val (.gv (.pr b o e (orA A (aOf i)))) w))
   | _ => .no c)
 | _, _, _ => .no c
def aj9 (t : TypeId) (x i : AV) (w : W) (c : Nat) : OR := match ajt x, w8 i, be t with
 | some g, some e, some .string => ll e (.c 0) (orA (aOf x) (aOf i)) false c (ll e (ir g) (orA (aOf x) (aOf i)) true c (.val (.sym .u8 (ajg g e) (orA (aOf x) (aOf i))) w))
 | _, _, _ => .no c
def ago (op : BinOp) (g h : GE) (A : List SA) (w : W) (c : Nat) : OR := match op with
 | .add => ll (.c 9223372036854775807) (ir (n9 g h)) A false c (.val (.gv (.str (n9 g h) A)) w)
 | .eql => (match gn false (.eqg g h) (.c 1) A with
   | some r => .val (.bool r) w
   | none => .no (aat (.eqg g h) (.c 1)))
 | .neq => (match gn false (.eqg g h) (.c 1) A with
   | some r => .val (.bool (!r)) w
   | none => .no (aat (.eqg g h) (.c 1)))
 | _ => .no c
def axx (op : BinOp) (k : IntKind) (a b : SE) (A : List SA) (w : W) (c : Nat) : OR := match op with
 | .and => .val (.sym k (.bin 8 k a b) A) w
 | .or => .val (.sym k (.bin 9 k a b) A) w
 | .xor => .val (.sym k (.bin 10 k a b) A) w
 | .andNot => .val (.sym k (.bin 13 k a b) A) w
 | _ => .no c
def apo (op : BinOp) (k : IntKind) (a b : SE) (A : List SA) (w : W) (c : Nat) : OR := match op with
 | .shl => ll b (.c 0) A false c (.val (.sym k (.bin 11 k a b) A) w)
 | .shr => ll b (.c 0) A false c (.val (.sym k (.bin 12 k a b) A) w)
 | _ => .no c
def biq : BinOp → Bool
 | .shl | .shr => true
 | _ => false
def axy (w : W) (A : List SA) : Nat → TypeId → AV → AV → Option Bool
 | 0, _, _, _ => none
 | d + 1, t, x, y => match be t with
   | some (.int _) => (match w8 x, w8 y, knd x, knd y with
     | some a, some b, some k, some k' => bc (ra k k') (gn false a b A) none
     | _, _, _, _ => none)
   | some .string => (match ajt x, ajt y with
     | some g, some h => gn false (.eqg g h) (.c 1) A
     | _, _ => none)
   | some (.struct fs) => (match x, y with
     | .agg xs, .agg ys => bc (PP.stoodInHeld t) none (eqFields (axy w A d) xs ys fs.toList)
     | _, _ => none)
   | _ => ahp w 8 t x y
def agA : AV → List SA
 | .agg l => firstAs l
 | v => aOf v
where firstAs : List AV → List SA
 | [] => []
 | v :: l => orA (aOf v) (firstAs l)
def aoh (A : List SA) : List AV → List AV → Nat
 | x :: l, y :: m => (match w8 x, w8 y with
   | some a, some b => (match gn false a b A with
     | some true => aoh A l m
     | some false => 0
     | none => aat a b)
   | _, _ => aoh A l m)
 | _, _ => 0
def ad9 (r : Bool) (t : TypeId) (a b : AV) (w : W) (c : Nat) : OR := match axy w (orA (agA a) (agA b)) 3 t a b with
 | some q => .val (.bool (bc r q (!q))) w
 | none => (match a, b with
   | .agg xs, .agg ys => (match aoh (orA (agA a) (agA b)) xs ys with
     | 0 => .no c
     | m => .no m)
   | _, _ => .no c)
def a7i : AV → Bool
 | .agg _ => true
 | _ => false
def a5w (op : BinOp) (t : TypeId) (x y : Operand) (a b : AV) (w : W) (c : Nat) : OR :=
 match ajt a, ajt b with
 | some g, some h => ago op g h (orA (aOf a) (aOf b)) w c
 | _, _ => match w8 a, w8 b, knd a, knd b with
   | some e, some f, some k, some k' => bc (biq op) (apo op k e f (orA (aOf a) (aOf b)) w c) (bc (ra k k') (axx op k e f (orA (aOf a) (aOf b)) w c) (.no c))
   | _, _, _, _ => bc (a7i a && a7i b && vt t x y a b) (match op with
     | .eql => ad9 true t a b w c
     | .neq => ad9 false t a b w c
     | _ => .no c) (.no c)
def atb (src dst : TypeId) (x : AV) (w : W) (c : Nat) : OR := match be src, be dst, x with
 | some _, some (.int k), .sym _ e A => .val (.sym k (.bin 0 k e (.c 0)) A) w
 | some _, some .string, .sym _ e A => .val (.gv (.str (.enc e) A)) w
 | some _, some .string, .gv (.str g A) => .val (.gv (.str g A)) w
 | _, _, _ => .no c
def bau (o : Option AV) (d : SE) : Option SE := match o with
 | none => some d
 | some v => w8 v
def bao (o : Option AV) : List SA := match o with
 | none => []
 | some v => aOf v
def agn (t : TypeId) (x : AV) (lo hi mx : Option AV) (w : W) (c : Nat) : OR := match be t, ajt x, mx, bau lo (.c 0) with
 | some .string, some g, none, some l => (match bau hi (ir g) with
   | some h => (fun A => ll l (.c 0) A false c (ll h l A false c (ll (ir g) h A false c (.val (.gv (.str (.cut g l h) A)) w)))) (orA (aOf x) (orA (bao lo) (bao hi)))
   | none => .no c)
 | _, _, _, _ => .no c
def apq (t : TypeId) (b : K) (lo hi mx : Option AV) (w : W) (c : Nat) : OR := match be t, hi, mx with
 | some (.slice e), some h, some m => (match sizeOf e, j6 (some m) 0 0, j6 (some h) 0 0, j6 lo 0 0 with
   | some _, some _, some _, some _ => .val (.slice b 0 0 0 none) w
   | _, _, _, _ => .no c)
 | _, _, _ => .no c
def agm (t : TypeId) (b : K) (o n : SE) (A : List SA) (lo hi mx : Option AV) (w : W) (c : Nat) : OR := match be t, lo, hi, mx with
 | some (.slice e), some l', some h', none => (match sizeOf e, w8 l', w8 h' with
   | some 1, some l, some (.bin 0 .i64 l2 (.c 1)) => bc (ij l2 l) ((fun B => ll o (.c 0) B false c (ll l (.c 0) B false c (ll (.bin 0 .i64 l2 (.c 1)) l B false c (ll l n B true c (.val (.gv (.sr b (ka o l) (.c 1) B)) w))))) (orA A (orA (aOf l') (aOf h')))) (.no c)
   | _, _, _ => .no c)
 | _, _, _, _ => .no c
def aka (t : TypeId) (x : AV) (lo hi mx : Option AV) (w : W) (c : Nat) : OR := match x with
 | .gv (.sl b _ _ _) => apq t b lo hi mx w c
 | .gv (.sr b o n A) => agm t b o n A lo hi mx w c
 | _ => agn t x lo hi mx w c
def ak5 (e : SE) (k : IntKind) (A : List SA) : List (AV × AV) → Nat ⊕ Option AV
 | [] => .inr none
 | p :: es => match p.1 with
   | .int k' n => bc (ra k k') (match gn false e (.c n) A with
     | some true => .inr (some p.2)
     | some false => ak5 e k A es
     | none => .inl (aat e (.c n))) (.inl 0)
   | _ => .inl 0
def ara (t : TypeId) (k : IntKind) : Bool := match vv t with
 | some (.int k') => ra k k'
 | _ => false
def ab9 (t : TypeId) : Bool := match vv t with
 | some .string => true
 | _ => false
def a35 (ok : Bool) (z : AV) (w : W) (c : Nat) : Nat ⊕ Option AV → OR
 | .inr (some v) => rn ok v true w
 | .inr none => rn ok z false w
 | .inl 0 => .no c
 | .inl m => .no m
def ac2 (t : TypeId) (m k : AV) (ok : Bool) (w : W) (c : Nat) : OR := match m, ng t with
 | .map b, some z => (match eo b w with
   | .map es => (match k with
     | .sym kd e A => bc (nq t && ara t kd) (a35 ok z w c (ak5 e kd A es)) (.no c)
     | _ => .no c)
   | .gob (.gmap mg) => (match ajt k, z with
     | some g, .int .i64 0 => bc (nq t && ab9 t) (match gn false (.mhas mg g) (.c 1) (aOf k) with
       | some true => rn ok (.sym .i64 (.mget mg g) (aOf k)) true w
       | some false => rn ok z false w
       | none => .no (aat (.mhas mg g) (.c 1))) (.no c)
     | _, _ => .no c)
   | _ => .no c)
 | _, _ => .no c
def apr (t : TypeId) (m k v : AV) (w : W) (c : Nat) : OR := match m with
 | .map b => (match eo b w with
   | .gob (.gmap mg) => (match ajt k, w8 v, knd v with
     | some g, some e, some .i64 => bc (nq t && ab9 t) (match gn false (.mhas mg g) (.c 1) (orA (aOf k) (aOf v)) with
       | some false => .val jo (wset b (.gob (.gmap (n9 (.one e) (n9 (.one (ir g)) (n9 g mg))))) w)
       | some true => .no c
       | none => .no (aat (.mhas mg g) (.c 1))) (.no c)
     | _, _, _ => .no c)
   | _ => .no c)
 | _ => .no c
def avx (t : TypeId) (x : AV) (w : W) (c : Nat) : OR := match be t, x with
 | some .string, .gv (.str g A) => nv (.gob (.iter g (.c 0) A)) a0u w
 | _, _ => .no c
def a6f (it : AV) (isString : Bool) (w : W) (c : Nat) : OR := match it, isString with
 | .ptr b 0, true => (match eo b w with
   | .gob (.iter g pos A) => (match gn true pos (ir g) A with
     | some true => .val (.tuple [.bool true, .sym .i64 pos A, .sym .i32 (.dr g pos) A]) (wset b (.gob (.iter g (ka pos (.dw g pos)) A)) w)
     | some false => .val (.tuple [.bool false]) w
     | none => .no (ait pos (ir g)))
   | _ => .no c)
 | _, _ => .no c
def y8 (ks : List IntKind) : Nat → List AV → Bool
 | _, [] => true
 | i, v :: l => (match nth ks (i % cx ks), knd v with
   | some k, some k' => bc (ra k k') (y8 ks (i + 1) l) false
   | _, _ => false)
def bd0 : Int → Bool
 | .ofNat n => Nat.ble n 255
 | _ => false
def u8E (A : List SA) : SE → Bool
 | .c n => bd0 n
 | .bin 0 .u8 _ _ => true
 | .bin 1 .u8 _ _ => true
 | .bin 8 .u8 _ _ => true
 | .bin 9 .u8 _ _ => true
 | e => dLt e (.c 0) A false && dLt e (.c 256) A true
def arb (ks : List IntKind) : Bool := match ks with
 | [.u8] => true
 | _ => false
def ama (A : List SA) : List AV → Bool
 | [] => true
 | v :: l => (match w8 v with
   | some e => bc (u8E A e) (ama A l) false
   | none => false)
def ta : List AV → GE
 | [] => .nil
 | v :: l => (match w8 v with
   | some e => n9 (.one e) (ta l)
   | none => .nil)
def yi (l : List AV) : List SA := agA.firstAs l
def aog (b : K) (n : SE) (A : List SA) (w : W) (c : Nat) : OR := match eo b w with
 | .gob (.gh _ ks n' g) => bc (ij n n' && arb ks) (.val (.gv (.str g A)) w) (.no c)
 | _ => .no c
def aj6 (src dst : TypeId) (x : AV) (w : W) (c : Nat) : OR := match be src, be dst with
 | some (.slice e), some .string => (match be e, x with
   | some (.int .u8), .gv (.sl b _ n A) => aog b n A w c
   | some (.int .u8), x => (match qr 1 x w with
     | some l => bc (y8 [.u8] 0 l && ama (yi l) l) (.val (.gv (.str (ta l) (yi l))) w) (.no c)
     | none => .no c)
   | _, _ => .no c)
 | _, _ => atb src dst x w c
def as5 (el : TypeId) (b : K) (es : Nat) (n : SE) (A : List SA) (new : List AV) (m : Nat) (w : W) (c : Nat) : OR := match eo b w with
 | .gob (.gh t ks n' g) => bc (Nat.beq t el && ij n n' && Nat.beq (cx ks) es && y8 ks 0 new && (!arb ks || ama A new))
    (nv (.gob (.gh t ks (ka n (.c (.ofNat m))) (n9 g (ta new)))) (fun k => .gv (.sl k es (ka n (.c (.ofNat m))) A)) (wset b .none w)) (.no c)
 | .gob (.junk t) => bc (Nat.beq t el && agv new) (nv (.gob (.junk t)) (fun k => .gv (.sl k es (ka n (.c (.ofNat m))) A)) (wset b .none w)) (.no c)
 | .gp false t n' g [] => (match new with
   | [.iface ty (.ptr kp 0)] => bc (Nat.beq t el && ij n n' && Nat.beq es 1 && Nat.beq m 1 && !K.beq kp b) (nv (.gp false t (ka n (.c (.ofNat m))) g [.mk n ty kp]) (fun k => .gv (.sl k es (ka n (.c (.ofNat m))) A)) (wset b .none w)) (.no c)
   | _ => .no c)
 | _ => .no c
def as8 (el : TypeId) (b : K) (n : SE) (A : List SA) (h : GE) (w : W) (c : Nat) : OR := match eo b w with
 | .gob (.gh t ks n' g) => bc (Nat.beq t el && ij n n' && arb ks)
    (nv (.gob (.gh t ks (ka n (ir h)) (n9 g h))) (fun k => .gv (.sl k 1 (ka n (ir h)) A)) (wset b .none w)) (.no c)
 | _ => .no c
def aj5 (t : TypeId) (xt : Option TypeId) (s x : AV) (w : W) (c : Nat) : OR :=
 bc (aee xt) (match be t, s with
 | some (.slice e), .gv (.sl b es n A) => (match sizeOf e, (iy e).map (·.bytes), j1 e with
   | some size, some bytes, some z => bc (ma z && Nat.beq (cx (cellsOf z)) size && Nat.beq size es && Nat.blt 0 es && Nat.ble bytes 1000000)
     (match ajt x with
       | some h => bc (Nat.beq es 1) (ll (.c 400000) (ka n (ir h)) (orA A (aOf x)) false c (as8 e b n (orA A (aOf x)) h w c)) (.no c)
       | none => (match nu size x w with
         | some (m, new) => ll (.c 400000) (ka n (.c (.ofNat m))) (orA A (yi new)) false c (as5 e b es n (orA A (yi new)) new m w c)
         | none => .no c)) (.no c)
   | _, _, _ => .no c)
 | _, _ => .no c) (.no c)
def acv (t : TypeId) (xt : Option TypeId) (b : K) (es : Nat) (n : SE) (A : List SA) (w : W) (c : Nat) : OR :=
 bc (aee xt) (match be t with
 | some (.slice e) => (match sizeOf e, (iy e).map (·.bytes), j1 e, eo b w with
   | some size, some bytes, some z, .gob (.gh t' ks n' g) => bc (ma z && Nat.beq (cx (cellsOf z)) size && Nat.beq size es && Nat.blt 0 es && Nat.ble bytes 1000000 && Nat.beq t' e && ij n n' && Nat.beq (cx ks) es)
      (ll (.c 0) n A true c (ll (.c 400000) n A false c (nv (.gob (.gh t' ks n g)) (fun k => .gv (.sl k es n A)) w))) (.no c)
   | _, _, _, _ => .no c)
 | _ => .no c) (.no c)
def aj4 (t : TypeId) (xt : Option TypeId) (h : GE) (A : List SA) (w : W) (c : Nat) : OR :=
 bc (aee xt) (match be t with
 | some (.slice e) => (match sizeOf e, (iy e).map (·.bytes), j1 e with
   | some size, some bytes, some z => bc (ma z && Nat.beq (cx (cellsOf z)) size && Nat.beq size 1 && Nat.ble bytes 1000000)
      (match gn true (.c 0) (ir h) A with
        | some true => ll (.c 400000) (ir h) A false c (nv (.gob (.gh e [.u8] (ir h) h)) (fun k => .gv (.sl k 1 (ir h) A)) w)
        | some false => .val .nilSlice w
        | none => .no (ait (.c 0) (ir h))) (.no c)
   | _, _, _ => .no c)
 | _ => .no c) (.no c)
def aof (t : TypeId) (xt : Option TypeId) (s x : AV) (w : W) (c : Nat) : OR := match s, x with
 | .slice _ _ 0 0 none, .gv (.sl b es n A) => acv t xt b es n A w c
 | .nilSlice, .gv (.sl b es n A) => acv t xt b es n A w c
 | .nilSlice, .gv (.str h A) => aj4 t xt h A w c
 | _, _ => aj5 t xt s x w c
def a6d (t : TypeId) (x : AV) (w : W) (c : Nat) : OR := match be t, x with
 | some .string, .gv (.str g A) => .val (.sym .i64 (ir g) A) w
 | some (.slice _), .gv (.sl _ _ n A) => .val (.sym .i64 n A) w
 | some (.slice _), .gv (.sr _ _ n A) => .val (.sym .i64 n A) w
 | _, _ => .no c
def avy (x : AV) (w : W) (c : Nat) : OR := match x with
 | .gv (.sl b es n A) => ll (.c 0) n A true c (.val (.gv (.ptr b es (.c 0) 0 A)) w)
 | _ => .no c
def akb (pt : TypeId) (p n : AV) (w : W) (c : Nat) : OR := match p, n with
 | .gv (.ptr b 1 (.c 0) 0 A), .sym .i64 e _ => (match eo b w with
   | .gob (.gh t ks n' g) => bc (ij e n' && arb ks) (match be pt, sizeOf t with
     | some (.pointer u), some s => bc (Nat.beq t u && Nat.beq s 1) (ll (.c 0) e A true c (ll (.c 400000) e A false c (.val (.gv (.str g A)) (wset b .none w)))) (.no c)
     | _, _ => .no c) (.no c)
   | _ => .no c)
 | _, _ => .no c
def yc (b : Builtin) (ts : List TypeId) (vs : List AV) (w : W) (c : Nat) : OR := match b, ts, vs with
 | .len, t :: _, [x] => a6d t x w c
 | .append, t :: ts, [s, x] => aof t ts.head? s x w c
 | .unsafeString, [t, _], [p, n] => akb t p n w c
 | .unsafeSliceData, _, [x] => avy x w c
 | _, _, _ => .no c
def xOp (o : Op) (τ : F) (w : W) (c : Nat) : OR := match o with
 | .load t a => atc t (evX a τ) w c
 | .indexAddr t x i => sa t (evX x τ) (evX i τ) w c
 | .index t x i => aj9 t (evX x τ) (evX i τ) w c
 | .binOp op t x y _ => a5w op t x y (evX x τ) (evX y τ) w c
 | .convert s d x => aj6 s d (evX x τ) w c
 | .slice t x lo hi mx => aka t (evX x τ) (lo.map fun y => evX y τ) (hi.map fun y => evX y τ) (mx.map fun y => evX y τ) w c
 | .lookup t m k ok => ac2 t (evX m τ) (evX k τ) ok w c
 | .mapUpdate t m k v => apr t (evX m τ) (evX k τ) (evX v τ) w c
 | .range t x => avx t (evX x τ) w c
 | .next it s => a6f (evX it τ) s w c
 | .call ⟨.builtin b, args, ts⟩ => yc b ts.toList (vo args.toList τ) w c
 | _ => .no c
def a2g : SE → Option Int
 | .c n => some n
 | _ => none
def xp (e : SE) : List SA → Option Int
 | [] => a2g e
 | .mk lt a b r :: l => match lt, b, r with
   | false, .c n, true => bc (ij e a) (some n) (xp e l)
   | _, _, _ => xp e l
def a9x (o : Option Int) (k : IntKind) (e : SE) (A : List SA) : AV := match o with
 | some n => .int k n
 | none => .sym k e A
def aiz : AV → AV
 | .sym k e A => a9x (xp e A) k e A
 | v => v
def mr : OR → OR
 | .val v w => .val (aiz v) w
 | r => r
def gOp (o : Op) (τ : F) (w : W) : OR := OR.rec (motive := fun _ => Op → F → W → OR) (fun v w' _ _ _ => .val (aiz v) w') (fun f vs w' _ _ _ => .call f vs w') (fun b vs w' _ _ _ => .yld b vs w')
 (fun v w' _ _ _ => .pan v w') (fun d w' _ _ _ => .dfr d w') (fun w' _ _ _ => .rcv w') (fun c o τ w => mr (xOp o τ w c)) (fOp o τ w) o τ w
def zOp (o : Op) (τ : F) (w : W) : OR := mr (match adf o τ w with
 | .no c => xOp o τ w c
 | r => r)
def gD (o : Op) (τ : F) (w : W) : OR := OR.rec (motive := fun _ => Op → F → W → OR) (fun v w' _ _ _ => .val (aiz v) w') (fun f vs w' _ _ _ => .call f vs w') (fun b vs w' _ _ _ => .yld b vs w')
 (fun v w' _ _ _ => .pan v w') (fun d w' _ _ _ => .dfr d w') (fun w' _ _ _ => .rcv w') (fun _ o τ w => zOp o τ w) (fOp o τ w) o τ w
end
end Go.Ev
