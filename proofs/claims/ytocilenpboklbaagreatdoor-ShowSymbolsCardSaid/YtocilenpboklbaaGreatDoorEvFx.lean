import Derived.Test.YtocilenpboklbaaGreatDoorEvF
set_option linter.all false
namespace Go.Ev
noncomputable section
def aOf : AV → List SA
 | .sym _ _ A => A
 | .gv (.str _ A) => A
 | .gv (.sl _ _ _ A) => A
 | .gv (.ptr _ _ _ _ A) => A
 | .gv (.sr _ _ _ A) => A
 | .gv (.pr _ _ _ A) => A
 | _ => []
def orA (A B : List SA) : List SA := match A with
 | [] => B
 | a :: l => a :: l
def ve : AV → Option SE
 | .int _ n => some (.c n)
 | .sym _ e _ => some e
 | _ => none
def knd : AV → Option IntKind
 | .int k _ => some k
 | .sym k _ _ => some k
 | _ => none
def jv : SE → SE → SE
 | .c m, .c n => .c (Int.add m n)
 | .bin 6 k a (.c m), .c n => .bin 6 k a (.c (Int.add m n))
 | .c 0, b => b
 | a, .c 0 => a
 | a, b => .bin 6 .i64 a b
def fi : GE → SE
 | .nil => .c 0
 | .one _ => .c 1
 | .cat a b => jv (fi a) (fi b)
 | .lit l _ => .c (.ofNat l)
 | g => .len g
def my : GE → GE → GE
 | .nil, b => b
 | a, .nil => a
 | .lit l n, .lit l' n' => bc (Nat.blt n' (Nat.pow 256 l')) (.lit (l + l') (n * Nat.pow 256 l' + n')) (.cat (.lit l n) (.lit l' n'))
 | .cat a (.lit l n), .lit l' n' => bc (Nat.blt n' (Nat.pow 256 l')) (.cat a (.lit (l + l') (n * Nat.pow 256 l' + n'))) (.cat (.cat a (.lit l n)) (.lit l' n'))
 | a, b => .cat a b
def xx (o : Option Bool) (b : Bool) : Bool := match o with
 | some c => y6 c b
 | none => false
def dLt (a b : SE) (A : List SA) (r : Bool) : Bool := xx (ea true a b A) r
def ayy (es off : Nat) (i : SE) : SE := bc (Nat.beq es 1) (bc (Nat.beq off 0) i (jv i (.c (.ofNat off)))) (jv (.bin 7 .i64 (.c (.ofNat es)) i) (.c (.ofNat off)))
def ajf (g : GE) (e : SE) : SE := .rd g e
def aiw (a b : SE) : Nat := abs (fun x => gu x 1) (gr a) (gr b)
def zw (a b : SE) : Nat := abs (fun x => gu x 0) (gr a) (gr b)
def j6 (a b : SE) (A : List SA) (r : Bool) (c : Nat) (k : OR) : OR := match ea true a b A with
 | some x => bc (y6 x r) k (.no c)
 | none => .no (aiw a b)
def ajr : AV → Option GE
 | .str l n => some (.lit l n)
 | .gv (.str g _) => some g
 | _ => none
def aaz (ks : List IntKind) (g : GE) (es : Nat) (i : SE) (A : List SA) : Nat → Nat → Option (List AV)
 | 0, _ => some []
 | n + 1, off => match nth ks off with
   | some k => (aaz ks g es i A n (off + 1)).map (.sym k (ajf g (ayy es off i)) A :: ·)
   | none => none
def aoz (t : TypeId) (o i o' n : SE) (g : GE) (A : List SA) (w : W) (c : Nat) : OR := match o with
 | .bin 6 _ a d => bc (fw a o') (j6 a (.c 0) A false c (j6 d (.c 0) A false c (j6 (jv d i) n A true c (match vh t with
   | some none => .val (.sym .i64 (ajf g (jv d i)) A) w
   | _ => .no c)))) (.no c)
 | _ => .no c
def auw (t : TypeId) (p : AV) (w : W) (c : Nat) : OR := match p with
 | .gv (.ptr b es i off A) => (match cx b w with
   | .gob (.gh _ ks n g) => bc (Nat.beq (br ks) es) (j6 i n A true c (match vh t with
     | some none => (match aaz ks g es i A 1 off with
       | some [v] => .val v w
       | _ => .no c)
     | some (some m) => (match aaz ks g es i A m off with
       | some l => .val (.agg l) w
       | none => .no c)
     | none => .no c)) (.no c)
   | _ => .no c)
 | .gv (.pr b o i A) => (match cx b w with
   | .gob (.rh o' n g) => bc (fw o o') (j6 i n A true c (match vh t with
     | some none => .val (.sym .i64 (ajf g i) A) w
     | _ => .no c)) (aoz t o i o' n g A w c)
   | .gob (.rb o' n g) => bc (fw o o') (j6 i n A true c (match vh t, ea false (ajf g i) (.c 0) A with
     | some none, some r => .val (.bool (!r)) w
     | some none, none => .no (af4 .eql (ajf g i) (.c 0))
     | _, _ => .no c)) (.no c)
   | _ => .no c)
 | _ => .no c
def qp (t : TypeId) (x i : AV) (w : W) (c : Nat) : OR := match x, ve i, az t with
 | .gv (.sl b es n A), some e, some (.slice el) => bc (Nat.blt 0 es) (match sizeOf el with
   | some s => bc (Nat.beq s es) (j6 e (.c 0) (orA A (aOf i)) false c (j6 e n (orA A (aOf i)) true c (.val (.gv (.ptr b es e 0 (orA A (aOf i)))) w))) (.no c)
   | none => .no c) (.no c)
 | .gv (.sr b o n A), some e, some (.slice el) => (match sizeOf el with
   | some 1 => j6 e (.c 0) (orA A (aOf i)) false c (j6 e n (orA A (aOf i)) true c (.val (.gv (.pr b o e (orA A (aOf i)))) w))
   | _ => .no c)
 | _, _, _ => .no c
def aj7 (t : TypeId) (x i : AV) (w : W) (c : Nat) : OR := match ajr x, ve i, az t with
 | some g, some e, some .string => j6 e (.c 0) (orA (aOf x) (aOf i)) false c (j6 e (fi g) (orA (aOf x) (aOf i)) true c (.val (.sym .u8 (ajf g e) (orA (aOf x) (aOf i))) w))
 | _, _, _ => .no c
def agu (op : BinOp) (g h : GE) (A : List SA) (w : W) (c : Nat) : OR := match op with
 | .add => j6 (.c 9223372036854775807) (fi (my g h)) A false c (.val (.gv (.str (my g h) A)) w)
 | .eql => (match ea false (.eqg g h) (.c 1) A with
   | some r => .val (.bool r) w
   | none => .no (zw (.eqg g h) (.c 1)))
 | .neq => (match ea false (.eqg g h) (.c 1) A with
   | some r => .val (.bool (!r)) w
   | none => .no (zw (.eqg g h) (.c 1)))
 | _ => .no c
def a0i (op : BinOp) (k : IntKind) (a b : SE) (A : List SA) (w : W) (c : Nat) : OR := match op with
 | .and => .val (.sym k (.bin 8 k a b) A) w
 | .or => .val (.sym k (.bin 9 k a b) A) w
 | .xor => .val (.sym k (.bin 10 k a b) A) w
 | .andNot => .val (.sym k (.bin 13 k a b) A) w
 | _ => .no c
def aqc (op : BinOp) (k : IntKind) (a b : SE) (A : List SA) (w : W) (c : Nat) : OR := match op with
 | .shl => j6 b (.c 0) A false c (.val (.sym k (.bin 11 k a b) A) w)
 | .shr => j6 b (.c 0) A false c (.val (.sym k (.bin 12 k a b) A) w)
 | _ => .no c
def bzc : BinOp → Bool
 | .shl | .shr => true
 | _ => false
def a0j (w : W) (A : List SA) : Nat → TypeId → AV → AV → Option Bool
 | 0, _, _, _ => none
 | d + 1, t, x, y => match az t with
   | some (.int _) => (match ve x, ve y, knd x, knd y with
     | some a, some b, some k, some k' => bc (qe k k') (ea false a b A) none
     | _, _, _, _ => none)
   | some .string => (match ajr x, ajr y with
     | some g, some h => ea false (.eqg g h) (.c 1) A
     | _, _ => none)
   | some (.struct fs) => (match x, y with
     | .agg xs, .agg ys => bc (PP.stoodInHeld t) none (eqFields (a0j w A d) xs ys fs.toList)
     | _, _ => none)
   | _ => ah5 w 8 t x y
def agA : AV → List SA
 | .agg l => firstAs l
 | v => aOf v
where firstAs : List AV → List SA
 | [] => []
 | v :: l => orA (aOf v) (firstAs l)
def aoy (A : List SA) : List AV → List AV → Nat
 | x :: l, y :: m => (match ve x, ve y with
   | some a, some b => (match ea false a b A with
     | some true => aoy A l m
     | some false => 0
     | none => zw a b)
   | _, _ => aoy A l m)
 | _, _ => 0
def aeb (r : Bool) (t : TypeId) (a b : AV) (w : W) (c : Nat) : OR := match a0j w (orA (agA a) (agA b)) 3 t a b with
 | some q => .val (.bool (bc r q (!q))) w
 | none => (match a, b with
   | .agg xs, .agg ys => (match aoy (orA (agA a) (agA b)) xs ys with
     | 0 => .no c
     | m => .no m)
   | _, _ => .no c)
def bed : AV → Bool
 | .agg _ => true
 | _ => false
def bbu (op : BinOp) (t : TypeId) (x y : Operand) (a b : AV) (w : W) (c : Nat) : OR :=
 match ajr a, ajr b with
 | some g, some h => agu op g h (orA (aOf a) (aOf b)) w c
 | _, _ => match ve a, ve b, knd a, knd b with
   | some e, some f, some k, some k' => bc (bzc op) (aqc op k e f (orA (aOf a) (aOf b)) w c) (bc (qe k k') (a0i op k e f (orA (aOf a) (aOf b)) w c) (.no c))
   | _, _, _, _ => bc (bed a && bed b && uf t x y a b) (match op with
     | .eql => aeb true t a b w c
     | .neq => aeb false t a b w c
     | _ => .no c) (.no c)
def auv (src dst : TypeId) (x : AV) (w : W) (c : Nat) : OR := match az src, az dst, x with
 | some _, some (.int k), .sym _ e A => .val (.sym k (.bin 0 k e (.c 0)) A) w
 | some _, some .string, .sym _ e A => .val (.gv (.str (.enc e) A)) w
 | some _, some .string, .gv (.str g A) => .val (.gv (.str g A)) w
 | _, _, _ => .no c
def bkq (o : Option AV) (d : SE) : Option SE := match o with
 | none => some d
 | some v => ve v
def bkl (o : Option AV) : List SA := match o with
 | none => []
 | some v => aOf v
def agt (t : TypeId) (x : AV) (lo hi mx : Option AV) (w : W) (c : Nat) : OR := match az t, ajr x, mx, bkq lo (.c 0) with
 | some .string, some g, none, some l => (match bkq hi (fi g) with
   | some h => (fun A => j6 l (.c 0) A false c (j6 h l A false c (j6 (fi g) h A false c (.val (.gv (.str (.cut g l h) A)) w)))) (orA (aOf x) (orA (bkl lo) (bkl hi)))
   | none => .no c)
 | _, _, _, _ => .no c
def aqd (t : TypeId) (b : K) (lo hi mx : Option AV) (w : W) (c : Nat) : OR := match az t, hi, mx with
 | some (.slice e), some h, some m => (match sizeOf e, jc (some m) 0 0, jc (some h) 0 0, jc lo 0 0 with
   | some _, some _, some _, some _ => .val (.slice b 0 0 0 none) w
   | _, _, _, _ => .no c)
 | _, _, _ => .no c
def ags (t : TypeId) (b : K) (o n : SE) (A : List SA) (lo hi mx : Option AV) (w : W) (c : Nat) : OR := match az t, lo, hi, mx with
 | some (.slice e), some l', some h', none => (match sizeOf e, ve l', ve h' with
   | some 1, some l, some (.bin 0 .i64 l2 (.c 1)) => bc (fw l2 l) ((fun B => j6 o (.c 0) B false c (j6 l (.c 0) B false c (j6 (.bin 0 .i64 l2 (.c 1)) l B false c (j6 l n B true c (.val (.gv (.sr b (jv o l) (.c 1) B)) w))))) (orA A (orA (aOf l') (aOf h')))) (.no c)
   | _, _, _ => .no c)
 | _, _, _, _ => .no c
def akb (t : TypeId) (x : AV) (lo hi mx : Option AV) (w : W) (c : Nat) : OR := match x with
 | .gv (.sl b _ _ _) => aqd t b lo hi mx w c
 | .gv (.sr b o n A) => ags t b o n A lo hi mx w c
 | _ => agt t x lo hi mx w c
def alc (e : SE) (k : IntKind) (A : List SA) : List (AV × AV) → Nat ⊕ Option AV
 | [] => .inr none
 | p :: es => match p.1 with
   | .int k' n => bc (qe k k') (match ea false e (.c n) A with
     | some true => .inr (some p.2)
     | some false => alc e k A es
     | none => .inl (zw e (.c n))) (.inl 0)
   | _ => .inl 0
def asy (t : TypeId) (k : IntKind) : Bool := match ug t with
 | some (.int k') => qe k k'
 | _ => false
def abn (t : TypeId) : Bool := match ug t with
 | some .string => true
 | _ => false
def a8p (ok : Bool) (z : AV) (w : W) (c : Nat) : Nat ⊕ Option AV → OR
 | .inr (some v) => qg ok v true w
 | .inr none => qg ok z false w
 | .inl 0 => .no c
 | .inl m => .no m
def ab8 (t : TypeId) (m k : AV) (ok : Bool) (w : W) (c : Nat) : OR := match m, mf t with
 | .map b, some z => (match cx b w with
   | .map es => (match k with
     | .sym kd e A => bc (mm t && asy t kd) (a8p ok z w c (alc e kd A es)) (.no c)
     | _ => .no c)
   | .gob (.gmap mg) => (match ajr k, z with
     | some g, .int .i64 0 => bc (mm t && abn t) (match ea false (.mhas mg g) (.c 1) (aOf k) with
       | some true => qg ok (.sym .i64 (.mget mg g) (aOf k)) true w
       | some false => qg ok z false w
       | none => .no (zw (.mhas mg g) (.c 1))) (.no c)
     | _, _ => .no c)
   | _ => .no c)
 | _, _ => .no c
def ari (t : TypeId) (m k v : AV) (w : W) (c : Nat) : OR := match m with
 | .map b => (match cx b w with
   | .gob (.gmap mg) => (match ajr k, ve v, knd v with
     | some g, some e, some .i64 => bc (mm t && abn t) (match ea false (.mhas mg g) (.c 1) (orA (aOf k) (aOf v)) with
       | some false => .val gp (wset b (.gob (.gmap (my (.one e) (my (.one (fi g)) (my g mg))))) w)
       | some true => .no c
       | none => .no (zw (.mhas mg g) (.c 1))) (.no c)
     | _, _, _ => .no c)
   | _ => .no c)
 | _ => .no c
def axu (t : TypeId) (x : AV) (w : W) (c : Nat) : OR := match az t, x with
 | some .string, .gv (.str g A) => n9 (.gob (.iter g (.c 0) A)) a5j w
 | _, _ => .no c
def bbz (it : AV) (isString : Bool) (w : W) (c : Nat) : OR := match it, isString with
 | .ptr b 0, true => (match cx b w with
   | .gob (.iter g pos A) => (match ea true pos (fi g) A with
     | some true => .val (.tuple [.bool true, .sym .i64 pos A, .sym .i32 (.dr g pos) A]) (wset b (.gob (.iter g (jv pos (.dw g pos)) A)) w)
     | some false => .val (.tuple [.bool false]) w
     | none => .no (aiw pos (fi g)))
   | _ => .no c)
 | _, _ => .no c
def xz (ks : List IntKind) : Nat → List AV → Bool
 | _, [] => true
 | i, v :: l => (match nth ks (i % br ks), knd v with
   | some k, some k' => bc (qe k k') (xz ks (i + 1) l) false
   | _, _ => false)
def bp6 : Int → Bool
 | .ofNat n => Nat.ble n 255
 | _ => false
def u8E (A : List SA) : SE → Bool
 | .c n => bp6 n
 | .bin 0 .u8 _ _ => true
 | .bin 1 .u8 _ _ => true
 | .bin 8 .u8 _ _ => true
 | .bin 9 .u8 _ _ => true
 | e => dLt e (.c 0) A false && dLt e (.c 256) A true
def asz (ks : List IntKind) : Bool := match ks with
 | [.u8] => true
 | _ => false
def amj (A : List SA) : List AV → Bool
 | [] => true
 | v :: l => (match ve v with
   | some e => bc (u8E A e) (amj A l) false
   | none => false)
def re : List AV → GE
 | [] => .nil
 | v :: l => (match ve v with
   | some e => my (.one e) (re l)
   | none => .nil)
def xh (l : List AV) : List SA := agA.firstAs l
def aox (b : K) (n : SE) (A : List SA) (w : W) (c : Nat) : OR := match cx b w with
 | .gob (.gh _ ks n' g) => bc (fw n n' && asz ks) (.val (.gv (.str g A)) w) (.no c)
 | _ => .no c
def aj6 (src dst : TypeId) (x : AV) (w : W) (c : Nat) : OR := match az src, az dst with
 | some (.slice e), some .string => (match az e, x with
   | some (.int .u8), .gv (.sl b _ n A) => aox b n A w c
   | some (.int .u8), x => (match pj 1 x w with
     | some l => bc (xz [.u8] 0 l && amj (xh l) l) (.val (.gv (.str (re l) (xh l))) w) (.no c)
     | none => .no c)
   | _, _ => .no c)
 | _, _ => auv src dst x w c
def aup (el : TypeId) (b : K) (es : Nat) (n : SE) (A : List SA) (new : List AV) (m : Nat) (w : W) (c : Nat) : OR := match cx b w with
 | .gob (.gh t ks n' g) => bc (Nat.beq t el && fw n n' && Nat.beq (br ks) es && xz ks 0 new && (!asz ks || amj A new))
    (n9 (.gob (.gh t ks (jv n (.c (.ofNat m))) (my g (re new)))) (fun k => .gv (.sl k es (jv n (.c (.ofNat m))) A)) (wset b .none w)) (.no c)
 | .gob (.junk t) => bc (Nat.beq t el && ahf new) (n9 (.gob (.junk t)) (fun k => .gv (.sl k es (jv n (.c (.ofNat m))) A)) (wset b .none w)) (.no c)
 | _ => .no c
def aus (el : TypeId) (b : K) (n : SE) (A : List SA) (h : GE) (w : W) (c : Nat) : OR := match cx b w with
 | .gob (.gh t ks n' g) => bc (Nat.beq t el && fw n n' && asz ks)
    (n9 (.gob (.gh t ks (jv n (fi h)) (my g h))) (fun k => .gv (.sl k 1 (jv n (fi h)) A)) (wset b .none w)) (.no c)
 | _ => .no c
def aj5 (t : TypeId) (xt : Option TypeId) (s x : AV) (w : W) (c : Nat) : OR :=
 bc (afk xt) (match az t, s with
 | some (.slice e), .gv (.sl b es n A) => (match sizeOf e, (fo e).map (·.bytes), ij e with
   | some size, some bytes, some z => bc (ki z && Nat.beq (br (cellsOf z)) size && Nat.beq size es && Nat.blt 0 es && Nat.ble bytes 1000000)
     (match ajr x with
       | some h => bc (Nat.beq es 1) (j6 (.c 400000) (jv n (fi h)) (orA A (aOf x)) false c (aus e b n (orA A (aOf x)) h w c)) (.no c)
       | none => (match mn size x w with
         | some (m, new) => j6 (.c 400000) (jv n (.c (.ofNat m))) (orA A (xh new)) false c (aup e b es n (orA A (xh new)) new m w c)
         | none => .no c)) (.no c)
   | _, _, _ => .no c)
 | _, _ => .no c) (.no c)
def ab7 (t : TypeId) (xt : Option TypeId) (b : K) (es : Nat) (n : SE) (A : List SA) (w : W) (c : Nat) : OR :=
 bc (afk xt) (match az t with
 | some (.slice e) => (match sizeOf e, (fo e).map (·.bytes), ij e, cx b w with
   | some size, some bytes, some z, .gob (.gh t' ks n' g) => bc (ki z && Nat.beq (br (cellsOf z)) size && Nat.beq size es && Nat.blt 0 es && Nat.ble bytes 1000000 && Nat.beq t' e && fw n n' && Nat.beq (br ks) es)
      (j6 (.c 0) n A true c (j6 (.c 400000) n A false c (n9 (.gob (.gh t' ks n g)) (fun k => .gv (.sl k es n A)) w))) (.no c)
   | _, _, _, _ => .no c)
 | _ => .no c) (.no c)
def aj4 (t : TypeId) (xt : Option TypeId) (h : GE) (A : List SA) (w : W) (c : Nat) : OR :=
 bc (afk xt) (match az t with
 | some (.slice e) => (match sizeOf e, (fo e).map (·.bytes), ij e with
   | some size, some bytes, some z => bc (ki z && Nat.beq (br (cellsOf z)) size && Nat.beq size 1 && Nat.ble bytes 1000000)
      (match ea true (.c 0) (fi h) A with
        | some true => j6 (.c 400000) (fi h) A false c (n9 (.gob (.gh e [.u8] (fi h) h)) (fun k => .gv (.sl k 1 (fi h) A)) w)
        | some false => .val .nilSlice w
        | none => .no (aiw (.c 0) (fi h))) (.no c)
   | _, _, _ => .no c)
 | _ => .no c) (.no c)
def aow (t : TypeId) (xt : Option TypeId) (s x : AV) (w : W) (c : Nat) : OR := match s, x with
 | .slice _ _ 0 0 none, .gv (.sl b es n A) => ab7 t xt b es n A w c
 | .nilSlice, .gv (.sl b es n A) => ab7 t xt b es n A w c
 | .nilSlice, .gv (.str h A) => aj4 t xt h A w c
 | _, _ => aj5 t xt s x w c
def bbx (t : TypeId) (x : AV) (w : W) (c : Nat) : OR := match az t, x with
 | some .string, .gv (.str g A) => .val (.sym .i64 (fi g) A) w
 | some (.slice _), .gv (.sl _ _ n A) => .val (.sym .i64 n A) w
 | some (.slice _), .gv (.sr _ _ n A) => .val (.sym .i64 n A) w
 | _, _ => .no c
def axz (x : AV) (w : W) (c : Nat) : OR := match x with
 | .gv (.sl b es n A) => j6 (.c 0) n A true c (.val (.gv (.ptr b es (.c 0) 0 A)) w)
 | _ => .no c
def akg (pt : TypeId) (p n : AV) (w : W) (c : Nat) : OR := match p, n with
 | .gv (.ptr b 1 (.c 0) 0 A), .sym .i64 e _ => (match cx b w with
   | .gob (.gh t ks n' g) => bc (fw e n' && asz ks) (match az pt, sizeOf t with
     | some (.pointer u), some s => bc (Nat.beq t u && Nat.beq s 1) (j6 (.c 0) e A true c (j6 (.c 400000) e A false c (.val (.gv (.str g A)) (wset b .none w)))) (.no c)
     | _, _ => .no c) (.no c)
   | _ => .no c)
 | _, _ => .no c
def w6 (b : Builtin) (ts : List TypeId) (vs : List AV) (w : W) (c : Nat) : OR := match b, ts, vs with
 | .len, t :: _, [x] => bbx t x w c
 | .append, t :: ts, [s, x] => aow t ts.head? s x w c
 | .unsafeString, [t, _], [p, n] => akg t p n w c
 | .unsafeSliceData, _, [x] => axz x w c
 | _, _, _ => .no c
def xOp (o : Op) (τ : F) (w : W) (c : Nat) : OR := match o with
 | .load t a => auw t (evX a τ) w c
 | .indexAddr t x i => qp t (evX x τ) (evX i τ) w c
 | .index t x i => aj7 t (evX x τ) (evX i τ) w c
 | .binOp op t x y _ => bbu op t x y (evX x τ) (evX y τ) w c
 | .convert s d x => aj6 s d (evX x τ) w c
 | .slice t x lo hi mx => akb t (evX x τ) (lo.map fun y => evX y τ) (hi.map fun y => evX y τ) (mx.map fun y => evX y τ) w c
 | .lookup t m k ok => ab8 t (evX m τ) (evX k τ) ok w c
 | .mapUpdate t m k v => ari t (evX m τ) (evX k τ) (evX v τ) w c
 | .range t x => axu t (evX x τ) w c
 | .next it s => bbz (evX it τ) s w c
 | .call ⟨.builtin b, args, ts⟩ => w6 b ts.toList (uc args.toList τ) w c
 | _ => .no c
def zo (e : SE) : List SA → Option Int
 | [] => none
 | .mk lt a b r :: l => match lt, b, r with
   | false, .c n, true => bc (fw e a) (some n) (zo e l)
   | _, _, _ => zo e l
def bi7 (o : Option Int) (k : IntKind) (e : SE) (A : List SA) : AV := match o with
 | some n => .int k n
 | none => .sym k e A
def aiz : AV → AV
 | .sym k e A => bi7 (zo e A) k e A
 | v => v
def lz : OR → OR
 | .val v w => .val (aiz v) w
 | r => r
def gOp (o : Op) (τ : F) (w : W) : OR := OR.rec (motive := fun _ => Op → F → W → OR) (fun v w' _ _ _ => .val (aiz v) w') (fun f vs w' _ _ _ => .call f vs w') (fun b vs w' _ _ _ => .yld b vs w')
 (fun v w' _ _ _ => .pan v w') (fun d w' _ _ _ => .dfr d w') (fun w' _ _ _ => .rcv w') (fun c o τ w => lz (xOp o τ w c)) (fOp o τ w) o τ w
def zOp (o : Op) (τ : F) (w : W) : OR := lz (match adc o τ w with
 | .no c => xOp o τ w c
 | r => r)
def gD (o : Op) (τ : F) (w : W) : OR := OR.rec (motive := fun _ => Op → F → W → OR) (fun v w' _ _ _ => .val (aiz v) w') (fun f vs w' _ _ _ => .call f vs w') (fun b vs w' _ _ _ => .yld b vs w')
 (fun v w' _ _ _ => .pan v w') (fun d w' _ _ _ => .dfr d w') (fun w' _ _ _ => .rcv w') (fun _ o τ w => zOp o τ w) (fOp o τ w) o τ w
end
end Go.Ev
