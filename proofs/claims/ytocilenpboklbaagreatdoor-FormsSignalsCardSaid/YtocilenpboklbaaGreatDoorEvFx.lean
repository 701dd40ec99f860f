import Derived.Test.YtocilenpboklbaaGreatDoorEvF
set_option linter.all false
namespace Go.Ev
noncomputable section
def aOf : AV → List SA
 | .sym _ _ A => A
 | .gv (.str _ A) => A
 | .gv (.sl _ _ _ A) => A
 | .gv (.ptr _ _ _ _ A) => A
 | .gv (.sr _ _ _ A) => A
 | .gv (.pr _ _ _ A) => A
 | _ => []
def orA (A B : List SA) : List SA := match A with
 | [] => B
 | a :: l => a :: l
def vt : AV → Option SE
 | .int _ n => some (.c n)
 | .sym _ e _ => some e
 | _ => none
def knd : AV → Option IntKind
 | .int k _ => some k
 | .sym k _ _ => some k
 | _ => none
def jr : SE → SE → SE
 | .c m, .c n => .c (Int.add m n)
 | .bin 6 k a (.c m), .c n => .bin 6 k a (.c (Int.add m n))
 | .c 0, b => b
 | a, .c 0 => a
 | a, b => .bin 6 .i64 a b
def gf : GE → SE
 | .nil => .c 0
 | .one _ => .c 1
 | .cat a b => jr (gf a) (gf b)
 | .lit l _ => .c (.ofNat l)
 | g => .len g
def ni : GE → GE → GE
 | .nil, b => b
 | a, .nil => a
 | .lit l n, .lit l' n' => bc (Nat.blt n' (Nat.pow 256 l')) (.lit (l + l') (n * Nat.pow 256 l' + n')) (.cat (.lit l n) (.lit l' n'))
 | .cat a (.lit l n), .lit l' n' => bc (Nat.blt n' (Nat.pow 256 l')) (.cat a (.lit (l + l') (n * Nat.pow 256 l' + n'))) (.cat (.cat a (.lit l n)) (.lit l' n'))
 | a, b => .cat a b
def yc (o : Option Bool) (b : Bool) : Bool := match o with
 | some c => zb c b
 | none => false
def dLt (a b : SE) (A : List SA) (r : Bool) : Bool := yc (e9 true a b A) r
def avq (es off : Nat) (i : SE) : SE := bc (Nat.beq es 1) (bc (Nat.beq off 0) i (jr i (.c (.ofNat off)))) (jr (.bin 7 .i64 (.c (.ofNat es)) i) (.c (.ofNat off)))
def aia (g : GE) (e : SE) : SE := .rd g e
def ahn (a b : SE) : Nat := abr (fun x => iv x 1) (iu a) (iu b)
def zz (a b : SE) : Nat := abr (fun x => iv x 0) (iu a) (iu b)
def kj (a b : SE) (A : List SA) (r : Bool) (c : Nat) (k : OR) : OR := match e9 true a b A with
 | some x => bc (zb x r) k (.no c)
 | none => .no (ahn a b)
def ain : AV → Option GE
 | .str l n => some (.lit l n)
 | .gv (.str g _) => some g
 | _ => none
def aaw (ks : List IntKind) (g : GE) (es : Nat) (i : SE) (A : List SA) : Nat → Nat → Option (List AV)
 | 0, _ => some []
 | n + 1, off => match nth ks off with
   | some k => (aaw ks g es i A n (off + 1)).map (.sym k (aia g (avq es off i)) A :: ·)
   | none => none
def aol (t : TypeId) (o i o' n : SE) (g : GE) (A : List SA) (w : W) (c : Nat) : OR := match o with
 | .bin 6 _ a d => bc (fu a o') (kj a (.c 0) A false c (kj d (.c 0) A false c (kj (jr d i) n A true c (match qj t with
   | some none => .val (.sym .i64 (aia g (jr d i)) A) w
   | _ => .no c)))) (.no c)
 | _ => .no c
def al8 (i : SE) : List GP → Option AV
 | [] => none
 | .mk e t k :: l => bc (fu i e) (some (.iface t (.ptr k 0))) (al8 i l)
def aok (t : TypeId) (es off : Nat) (i : SE) (ps : List GP) (w : W) (c : Nat) : OR := bc (Nat.beq es 1 && Nat.beq off 0) (match qj t, al8 i ps with
 | some none, some v => .val v w
 | _, _ => .no c) (.no c)
def asm (t : TypeId) (p : AV) (w : W) (c : Nat) : OR := match p with
 | .gv (.ptr b es i off A) => (match db b w with
   | .gob (.gh _ ks n g) => bc (Nat.beq (b9 ks) es) (kj i n A true c (match qj t with
     | some none => (match aaw ks g es i A 1 off with
       | some [v] => .val v w
       | _ => .no c)
     | some (some m) => (match aaw ks g es i A m off with
       | some l => .val (.agg l) w
       | none => .no c)
     | none => .no c)) (.no c)
   | .gp _ _ _ _ ps => aok t es off i ps w c
   | _ => .no c)
 | .gv (.pr b o i A) => (match db b w with
   | .gob (.rh o' n g) => bc (fu o o') (kj i n A true c (match qj t with
     | some none => .val (.sym .i64 (aia g i) A) w
     | _ => .no c)) (aol t o i o' n g A w c)
   | .gob (.rb o' n g) => bc (fu o o') (kj i n A true c (match qj t, e9 false (aia g i) (.c 0) A with
     | some none, some r => .val (.bool (!r)) w
     | some none, none => .no (ae3 .eql (aia g i) (.c 0))
     | _, _ => .no c)) (.no c)
   | _ => .no c)
 | _ => .no c
def rq (t : TypeId) (x i : AV) (w : W) (c : Nat) : OR := match x, vt i, ba t with
 | .gv (.sl b es n A), some e, some (.slice el) => bc (Nat.blt 0 es) (match sizeOf el with
   | some s => bc (Nat.beq s es) (kj e (.c 0) (orA A (aOf i)) false c (kj e n (orA A (aOf i)) true c (.val (.gv (.ptr b es e 0 (orA A (aOf i)))) w))) (.no c)
   | none => .no c) (.no c)
 | .gv (.sr b o n A), some e, some (.slice el) => (match sizeOf el with
   | some 1 => kj e (.c 0) (orA A (aOf i)) false c (kj e n (orA A (aOf i)) true c (.val (.gv (.pr b o e (orA A (aOf i)))) w))
   | _ => .no c)
 | _, _, _ => .no c
def ai6 (t : TypeId) (x i : AV) (w : W) (c : Nat) : OR := match ain x, vt i, ba t with
 | some g, some e, some .string => kj e (.c 0) (orA (aOf x) (aOf i)) false c (kj e (gf g) (orA (aOf x) (aOf i)) true c (.val (.sym .u8 (aia g e) (orA (aOf x) (aOf i))) w))
 | _, _, _ => .no c
def afo (op : BinOp) (g h : GE) (A : List SA) (w : W) (c : Nat) : OR := match op with
 | .add => kj (.c 9223372036854775807) (gf (ni g h)) A false c (.val (.gv (.str (ni g h) A)) w)
 | .eql => (match e9 false (.eqg g h) (.c 1) A with
   | some r => .val (.bool r) w
   | none => .no (zz (.eqg g h) (.c 1)))
 | .neq => (match e9 false (.eqg g h) (.c 1) A with
   | some r => .val (.bool (!r)) w
   | none => .no (zz (.eqg g h) (.c 1)))
 | _ => .no c
def ax9 (op : BinOp) (k : IntKind) (a b : SE) (A : List SA) (w : W) (c : Nat) : OR := match op with
 | .and => .val (.sym k (.bin 8 k a b) A) w
 | .or => .val (.sym k (.bin 9 k a b) A) w
 | .xor => .val (.sym k (.bin 10 k a b) A) w
 | .andNot => .val (.sym k (.bin 13 k a b) A) w
 | _ => .no c
def aom (op : BinOp) (k : IntKind) (a b : SE) (A : List SA) (w : W) (c : Nat) : OR := match op with
 | .shl => kj b (.c 0) A false c (.val (.sym k (.bin 11 k a b) A) w)
 | .shr => kj b (.c 0) A false c (.val (.sym k (.bin 12 k a b) A) w)
 | _ => .no c
def bpb : BinOp → Bool
 | .shl | .shr => true
 | _ => false
def aya (w : W) (A : List SA) : Nat → TypeId → AV → AV → Option Bool
 | 0, _, _, _ => none
 | d + 1, t, x, y => match ba t with
   | some (.int _) => (match vt x, vt y, knd x, knd y with
     | some a, some b, some k, some k' => bc (qs k k') (e9 false a b A) none
     | _, _, _, _ => none)
   | some .string => (match ain x, ain y with
     | some g, some h => e9 false (.eqg g h) (.c 1) A
     | _, _ => none)
   | some (.struct fs) => (match x, y with
     | .agg xs, .agg ys => bc (PP.stoodInHeld t) none (eqFields (aya w A d) xs ys fs.toList)
     | _, _ => none)
   | _ => agq w 8 t x y
def agA : AV → List SA
 | .agg l => firstAs l
 | v => aOf v
where firstAs : List AV → List SA
 | [] => []
 | v :: l => orA (aOf v) (firstAs l)
def ann (A : List SA) : List AV → List AV → Nat
 | x :: l, y :: m => (match vt x, vt y with
   | some a, some b => (match e9 false a b A with
     | some true => ann A l m
     | some false => 0
     | none => zz a b)
   | _, _ => ann A l m)
 | _, _ => 0
def adr (r : Bool) (t : TypeId) (a b : AV) (w : W) (c : Nat) : OR := match aya w (orA (agA a) (agA b)) 3 t a b with
 | some q => .val (.bool (bc r q (!q))) w
 | none => (match a, b with
   | .agg xs, .agg ys => (match ann (orA (agA a) (agA b)) xs ys with
     | 0 => .no c
     | m => .no m)
   | _, _ => .no c)
def a81 : AV → Bool
 | .agg _ => true
 | _ => false
def a7o (op : BinOp) (t : TypeId) (x y : Operand) (a b : AV) (w : W) (c : Nat) : OR :=
 match ain a, ain b with
 | some g, some h => afo op g h (orA (aOf a) (aOf b)) w c
 | _, _ => match vt a, vt b, knd a, knd b with
   | some e, some f, some k, some k' => bc (bpb op) (aom op k e f (orA (aOf a) (aOf b)) w c) (bc (qs k k') (ax9 op k e f (orA (aOf a) (aOf b)) w c) (.no c))
   | _, _, _, _ => bc (a81 a && a81 b && va t x y a b) (match op with
     | .eql => adr true t a b w c
     | .neq => adr false t a b w c
     | _ => .no c) (.no c)
def asl (src dst : TypeId) (x : AV) (w : W) (c : Nat) : OR := match ba src, ba dst, x with
 | some _, some (.int k), .sym _ e A => .val (.sym k (.bin 0 k e (.c 0)) A) w
 | some _, some .string, .sym _ e A => .val (.gv (.str (.enc e) A)) w
 | some _, some .string, .gv (.str g A) => .val (.gv (.str g A)) w
 | _, _, _ => .no c
def bc2 (o : Option AV) (d : SE) : Option SE := match o with
 | none => some d
 | some v => vt v
def bcw (o : Option AV) : List SA := match o with
 | none => []
 | some v => aOf v
def afn (t : TypeId) (x : AV) (lo hi mx : Option AV) (w : W) (c : Nat) : OR := match ba t, ain x, mx, bc2 lo (.c 0) with
 | some .string, some g, none, some l => (match bc2 hi (gf g) with
   | some h => (fun A => kj l (.c 0) A false c (kj h l A false c (kj (gf g) h A false c (.val (.gv (.str (.cut g l h) A)) w)))) (orA (aOf x) (orA (bcw lo) (bcw hi)))
   | none => .no c)
 | _, _, _, _ => .no c
def aon (t : TypeId) (b : K) (lo hi mx : Option AV) (w : W) (c : Nat) : OR := match ba t, hi, mx with
 | some (.slice e), some h, some m => (match sizeOf e, jp (some m) 0 0, jp (some h) 0 0, jp lo 0 0 with
   | some _, some _, some _, some _ => .val (.slice b 0 0 0 none) w
   | _, _, _, _ => .no c)
 | _, _, _ => .no c
def afm (t : TypeId) (b : K) (o n : SE) (A : List SA) (lo hi mx : Option AV) (w : W) (c : Nat) : OR := match ba t, lo, hi, mx with
 | some (.slice e), some l', some h', none => (match sizeOf e, vt l', vt h' with
   | some 1, some l, some (.bin 0 .i64 l2 (.c 1)) => bc (fu l2 l) ((fun B => kj o (.c 0) B false c (kj l (.c 0) B false c (kj (.bin 0 .i64 l2 (.c 1)) l B false c (kj l n B true c (.val (.gv (.sr b (jr o l) (.c 1) B)) w))))) (orA A (orA (aOf l') (aOf h')))) (.no c)
   | _, _, _ => .no c)
 | _, _, _, _ => .no c
def ai7 (t : TypeId) (x : AV) (lo hi mx : Option AV) (w : W) (c : Nat) : OR := match x with
 | .gv (.sl b _ _ _) => aon t b lo hi mx w c
 | .gv (.sr b o n A) => afm t b o n A lo hi mx w c
 | _ => afn t x lo hi mx w c
def aj1 (e : SE) (k : IntKind) (A : List SA) : List (AV × AV) → Nat ⊕ Option AV
 | [] => .inr none
 | p :: es => match p.1 with
   | .int k' n => bc (qs k k') (match e9 false e (.c n) A with
     | some true => .inr (some p.2)
     | some false => aj1 e k A es
     | none => .inl (zz e (.c n))) (.inl 0)
   | _ => .inl 0
def aqd (t : TypeId) (k : IntKind) : Bool := match vc t with
 | some (.int k') => qs k k'
 | _ => false
def abk (t : TypeId) : Bool := match vc t with
 | some .string => true
 | _ => false
def a4o (ok : Bool) (z : AV) (w : W) (c : Nat) : Nat ⊕ Option AV → OR
 | .inr (some v) => qw ok v true w
 | .inr none => qw ok z false w
 | .inl 0 => .no c
 | .inl m => .no m
def acf (t : TypeId) (m k : AV) (ok : Bool) (w : W) (c : Nat) : OR := match m, mq t with
 | .map b, some z => (match db b w with
   | .map es => (match k with
     | .sym kd e A => bc (nd t && aqd t kd) (a4o ok z w c (aj1 e kd A es)) (.no c)
     | _ => .no c)
   | .gob (.gmap mg) => (match ain k, z with
     | some g, .int .i64 0 => bc (nd t && abk t) (match e9 false (.mhas mg g) (.c 1) (aOf k) with
       | some true => qw ok (.sym .i64 (.mget mg g) (aOf k)) true w
       | some false => qw ok z false w
       | none => .no (zz (.mhas mg g) (.c 1))) (.no c)
     | _, _ => .no c)
   | _ => .no c)
 | _, _ => .no c
def aoo (t : TypeId) (m k v : AV) (w : W) (c : Nat) : OR := match m with
 | .map b => (match db b w with
   | .gob (.gmap mg) => (match ain k, vt v, knd v with
     | some g, some e, some .i64 => bc (nd t && abk t) (match e9 false (.mhas mg g) (.c 1) (orA (aOf k) (aOf v)) with
       | some false => .val ir (wset b (.gob (.gmap (ni (.one e) (ni (.one (gf g)) (ni g mg))))) w)
       | some true => .no c
       | none => .no (zz (.mhas mg g) (.c 1))) (.no c)
     | _, _, _ => .no c)
   | _ => .no c)
 | _ => .no c
def avb (t : TypeId) (x : AV) (w : W) (c : Nat) : OR := match ba t, x with
 | some .string, .gv (.str g A) => ng (.gob (.iter g (.c 0) A)) a0x w
 | _, _ => .no c
def a7y (it : AV) (isString : Bool) (w : W) (c : Nat) : OR := match it, isString with
 | .ptr b 0, true => (match db b w with
   | .gob (.iter g pos A) => (match e9 true pos (gf g) A with
     | some true => .val (.tuple [.bool true, .sym .i64 pos A, .sym .i32 (.dr g pos) A]) (wset b (.gob (.iter g (jr pos (.dw g pos)) A)) w)
     | some false => .val (.tuple [.bool false]) w
     | none => .no (ahn pos (gf g)))
   | _ => .no c)
 | _, _ => .no c
def ye (ks : List IntKind) : Nat → List AV → Bool
 | _, [] => true
 | i, v :: l => (match nth ks (i % b9 ks), knd v with
   | some k, some k' => bc (qs k k') (ye ks (i + 1) l) false
   | _, _ => false)
def bjw : Int → Bool
 | .ofNat n => Nat.ble n 255
 | _ => false
def u8E (A : List SA) : SE → Bool
 | .c n => bjw n
 | .bin 0 .u8 _ _ => true
 | .bin 1 .u8 _ _ => true
 | .bin 8 .u8 _ _ => true
 | .bin 9 .u8 _ _ => true
 | e => dLt e (.c 0) A false && dLt e (.c 256) A true
def aqe (ks : List IntKind) : Bool := match ks with
 | [.u8] => true
 | _ => false
def ak9 (A : List SA) : List AV → Bool
 | [] => true
 | v :: l => (match vt v with
   | some e => bc (u8E A e) (ak9 A l) false
   | none => false)
def sk : List AV → GE
 | [] => .nil
 | v :: l => (match vt v with
   | some e => ni (.one e) (sk l)
   | none => .nil)
def xq (l : List AV) : List SA := agA.firstAs l
def anm (b : K) (n : SE) (A : List SA) (w : W) (c : Nat) : OR := match db b w with
 | .gob (.gh _ ks n' g) => bc (fu n n' && aqe ks) (.val (.gv (.str g A)) w) (.no c)
 | _ => .no c
def ai3 (src dst : TypeId) (x : AV) (w : W) (c : Nat) : OR := match ba src, ba dst with
 | some (.slice e), some .string => (match ba e, x with
   | some (.int .u8), .gv (.sl b _ n A) => anm b n A w c
   | some (.int .u8), x => (match qh 1 x w with
     | some l => bc (ye [.u8] 0 l && ak9 (xq l) l) (.val (.gv (.str (sk l) (xq l))) w) (.no c)
     | none => .no c)
   | _, _ => .no c)
 | _, _ => asl src dst x w c
def asf (el : TypeId) (b : K) (es : Nat) (n : SE) (A : List SA) (new : List AV) (m : Nat) (w : W) (c : Nat) : OR := match db b w with
 | .gob (.gh t ks n' g) => bc (Nat.beq t el && fu n n' && Nat.beq (b9 ks) es && ye ks 0 new && (!aqe ks || ak9 A new))
    (ng (.gob (.gh t ks (jr n (.c (.ofNat m))) (ni g (sk new)))) (fun k => .gv (.sl k es (jr n (.c (.ofNat m))) A)) (wset b .none w)) (.no c)
 | .gob (.junk t) => bc (Nat.beq t el && afu new) (ng (.gob (.junk t)) (fun k => .gv (.sl k es (jr n (.c (.ofNat m))) A)) (wset b .none w)) (.no c)
 | .gp false t n' g [] => (match new with
   | [.iface ty (.ptr kp 0)] => bc (Nat.beq t el && fu n n' && Nat.beq es 1 && Nat.beq m 1 && !K.beq kp b) (ng (.gp false t (jr n (.c (.ofNat m))) g [.mk n ty kp]) (fun k => .gv (.sl k es (jr n (.c (.ofNat m))) A)) (wset b .none w)) (.no c)
   | _ => .no c)
 | _ => .no c
def asi (el : TypeId) (b : K) (n : SE) (A : List SA) (h : GE) (w : W) (c : Nat) : OR := match db b w with
 | .gob (.gh t ks n' g) => bc (Nat.beq t el && fu n n' && aqe ks)
    (ng (.gob (.gh t ks (jr n (gf h)) (ni g h))) (fun k => .gv (.sl k 1 (jr n (gf h)) A)) (wset b .none w)) (.no c)
 | _ => .no c
def ai2 (t : TypeId) (xt : Option TypeId) (s x : AV) (w : W) (c : Nat) : OR :=
 bc (adx xt) (match ba t, s with
 | some (.slice e), .gv (.sl b es n A) => (match sizeOf e, (gu e).map (·.bytes), ji e with
   | some size, some bytes, some z => bc (lb z && Nat.beq (b9 (cellsOf z)) size && Nat.beq size es && Nat.blt 0 es && Nat.ble bytes 1000000)
     (match ain x with
       | some h => bc (Nat.beq es 1) (kj (.c 400000) (jr n (gf h)) (orA A (aOf x)) false c (asi e b n (orA A (aOf x)) h w c)) (.no c)
       | none => (match nf size x w with
         | some (m, new) => kj (.c 400000) (jr n (.c (.ofNat m))) (orA A (xq new)) false c (asf e b es n (orA A (xq new)) new m w c)
         | none => .no c)) (.no c)
   | _, _, _ => .no c)
 | _, _ => .no c) (.no c)
def ab5 (t : TypeId) (xt : Option TypeId) (b : K) (es : Nat) (n : SE) (A : List SA) (w : W) (c : Nat) : OR :=
 bc (adx xt) (match ba t with
 | some (.slice e) => (match sizeOf e, (gu e).map (·.bytes), ji e, db b w with
   | some size, some bytes, some z, .gob (.gh t' ks n' g) => bc (lb z && Nat.beq (b9 (cellsOf z)) size && Nat.beq size es && Nat.blt 0 es && Nat.ble bytes 1000000 && Nat.beq t' e && fu n n' && Nat.beq (b9 ks) es)
      (kj (.c 0) n A true c (kj (.c 400000) n A false c (ng (.gob (.gh t' ks n g)) (fun k => .gv (.sl k es n A)) w))) (.no c)
   | _, _, _, _ => .no c)
 | _ => .no c) (.no c)
def ai1 (t : TypeId) (xt : Option TypeId) (h : GE) (A : List SA) (w : W) (c : Nat) : OR :=
 bc (adx xt) (match ba t with
 | some (.slice e) => (match sizeOf e, (gu e).map (·.bytes), ji e with
   | some size, some bytes, some z => bc (lb z && Nat.beq (b9 (cellsOf z)) size && Nat.beq size 1 && Nat.ble bytes 1000000)
      (match e9 true (.c 0) (gf h) A with
        | some true => kj (.c 400000) (gf h) A false c (ng (.gob (.gh e [.u8] (gf h) h)) (fun k => .gv (.sl k 1 (gf h) A)) w)
        | some false => .val .nilSlice w
        | none => .no (ahn (.c 0) (gf h))) (.no c)
   | _, _, _ => .no c)
 | _ => .no c) (.no c)
def anl (t : TypeId) (xt : Option TypeId) (s x : AV) (w : W) (c : Nat) : OR := match s, x with
 | .slice _ _ 0 0 none, .gv (.sl b es n A) => ab5 t xt b es n A w c
 | .nilSlice, .gv (.sl b es n A) => ab5 t xt b es n A w c
 | .nilSlice, .gv (.str h A) => ai1 t xt h A w c
 | _, _ => ai2 t xt s x w c
def a7w (t : TypeId) (x : AV) (w : W) (c : Nat) : OR := match ba t, x with
 | some .string, .gv (.str g A) => .val (.sym .i64 (gf g) A) w
 | some (.slice _), .gv (.sl _ _ n A) => .val (.sym .i64 n A) w
 | some (.slice _), .gv (.sr _ _ n A) => .val (.sym .i64 n A) w
 | _, _ => .no c
def avc (x : AV) (w : W) (c : Nat) : OR := match x with
 | .gv (.sl b es n A) => kj (.c 0) n A true c (.val (.gv (.ptr b es (.c 0) 0 A)) w)
 | _ => .no c
def ai8 (pt : TypeId) (p n : AV) (w : W) (c : Nat) : OR := match p, n with
 | .gv (.ptr b 1 (.c 0) 0 A), .sym .i64 e _ => (match db b w with
   | .gob (.gh t ks n' g) => bc (fu e n' && aqe ks) (match ba pt, sizeOf t with
     | some (.pointer u), some s => bc (Nat.beq t u && Nat.beq s 1) (kj (.c 0) e A true c (kj (.c 400000) e A false c (.val (.gv (.str g A)) (wset b .none w)))) (.no c)
     | _, _ => .no c) (.no c)
   | _ => .no c)
 | _, _ => .no c
def xl (b : Builtin) (ts : List TypeId) (vs : List AV) (w : W) (c : Nat) : OR := match b, ts, vs with
 | .len, t :: _, [x] => a7w t x w c
 | .append, t :: ts, [s, x] => anl t ts.head? s x w c
 | .unsafeString, [t, _], [p, n] => ai8 t p n w c
 | .unsafeSliceData, _, [x] => avc x w c
 | _, _, _ => .no c
def xOp (o : Op) (τ : F) (w : W) (c : Nat) : OR := match o with
 | .load t a => asm t (evX a τ) w c
 | .indexAddr t x i => rq t (evX x τ) (evX i τ) w c
 | .index t x i => ai6 t (evX x τ) (evX i τ) w c
 | .binOp op t x y _ => a7o op t x y (evX x τ) (evX y τ) w c
 | .convert s d x => ai3 s d (evX x τ) w c
 | .slice t x lo hi mx => ai7 t (evX x τ) (lo.map fun y => evX y τ) (hi.map fun y => evX y τ) (mx.map fun y => evX y τ) w c
 | .lookup t m k ok => acf t (evX m τ) (evX k τ) ok w c
 | .mapUpdate t m k v => aoo t (evX m τ) (evX k τ) (evX v τ) w c
 | .range t x => avb t (evX x τ) w c
 | .next it s => a7y (evX it τ) s w c
 | .call ⟨.builtin b, args, ts⟩ => xl b ts.toList (u7 args.toList τ) w c
 | _ => .no c
def a2l : SE → Option Int
 | .c n => some n
 | _ => none
def w6 (e : SE) : List SA → Option Int
 | [] => a2l e
 | .mk lt a b r :: l => match lt, b, r with
   | false, .c n, true => bc (fu e a) (some n) (w6 e l)
   | _, _, _ => w6 e l
def bb5 (o : Option Int) (k : IntKind) (e : SE) (A : List SA) : AV := match o with
 | some n => .int k n
 | none => .sym k e A
def aht : AV → AV
 | .sym k e A => bb5 (w6 e A) k e A
 | v => v
def mb : OR → OR
 | .val v w => .val (aht v) w
 | r => r
def gOp (o : Op) (τ : F) (w : W) : OR := OR.rec (motive := fun _ => Op → F → W → OR) (fun v w' _ _ _ => .val (aht v) w') (fun f vs w' _ _ _ => .call f vs w') (fun b vs w' _ _ _ => .yld b vs w')
 (fun v w' _ _ _ => .pan v w') (fun d w' _ _ _ => .dfr d w') (fun w' _ _ _ => .rcv w') (fun c o τ w => mb (xOp o τ w c)) (fOp o τ w) o τ w
def zOp (o : Op) (τ : F) (w : W) : OR := mb (match acr o τ w with
 | .no c => xOp o τ w c
 | r => r)
def gD (o : Op) (τ : F) (w : W) : OR := OR.rec (motive := fun _ => Op → F → W → OR) (fun v w' _ _ _ => .val (aht v) w') (fun f vs w' _ _ _ => .call f vs w') (fun b vs w' _ _ _ => .yld b vs w')
 (fun v w' _ _ _ => .pan v w') (fun d w' _ _ _ => .dfr d w') (fun w' _ _ _ => .rcv w') (fun _ o τ w => zOp o τ w) (fOp o τ w) o τ w
end
end Go.Ev
