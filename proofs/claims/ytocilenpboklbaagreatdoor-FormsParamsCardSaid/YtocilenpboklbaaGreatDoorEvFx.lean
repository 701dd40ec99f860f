import Derived.Test.YtocilenpboklbaaGreatDoorEvF
set_option linter.all false
namespace Go.Ev
noncomputable section
def aOf : AV → List SA
 | .sym _ _ A => A
 | .gv (.str _ A) => A
 | .gv (.sl _ _ _ A) => A
 | .gv (.ptr _ _ _ _ A) => A
 | .gv (.sr _ _ _ A) => A
 | .gv (.pr _ _ _ A) => A
 | _ => []
def orA (A B : List SA) : List SA := match A with
 | [] => B
 | a :: l => a :: l
def w9 : AV → Option SE
 | .int _ n => some (.c n)
 | .sym _ e _ => some e
 | _ => none
def knd : AV → Option IntKind
 | .int k _ => some k
 | .sym k _ _ => some k
 | _ => none
def js : SE → SE → SE
 | .c m, .c n => .c (Int.add m n)
 | .bin 6 k a (.c m), .c n => .bin 6 k a (.c (Int.add m n))
 | .c 0, b => b
 | a, .c 0 => a
 | a, b => .bin 6 .i64 a b
def gf : GE → SE
 | .nil => .c 0
 | .one _ => .c 1
 | .cat a b => js (gf a) (gf b)
 | .lit l _ => .c (.ofNat l)
 | g => .len g
def oe : GE → GE → GE
 | .nil, b => b
 | a, .nil => a
 | .lit l n, .lit l' n' => bc (Nat.blt n' (Nat.pow 256 l')) (.lit (l + l') (n * Nat.pow 256 l' + n')) (.cat (.lit l n) (.lit l' n'))
 | .cat a (.lit l n), .lit l' n' => bc (Nat.blt n' (Nat.pow 256 l')) (.cat a (.lit (l + l') (n * Nat.pow 256 l' + n'))) (.cat (.cat a (.lit l n)) (.lit l' n'))
 | a, b => .cat a b
def zq (o : Option Bool) (b : Bool) : Bool := match o with
 | some c => aa6 c b
 | none => false
def dLt (a b : SE) (A : List SA) (r : Bool) : Bool := zq (eu true a b A) r
def a0g (es off : Nat) (i : SE) : SE := bc (Nat.beq es 1) (bc (Nat.beq off 0) i (js i (.c (.ofNat off)))) (js (.bin 7 .i64 (.c (.ofNat es)) i) (.c (.ofNat off)))
def akr (g : GE) (e : SE) : SE := .rd g e
def ajz (a b : SE) : Nat := ac8 (fun x => ir x 1) (iq a) (iq b)
def abq (a b : SE) : Nat := ac8 (fun x => ir x 0) (iq a) (iq b)
def kj (a b : SE) (A : List SA) (r : Bool) (c : Nat) (k : OR) : OR := match eu true a b A with
 | some x => bc (aa6 x r) k (.no c)
 | none => .no (ajz a b)
def ak5 : AV → Option GE
 | .str l n => some (.lit l n)
 | .gv (.str g _) => some g
 | _ => none
def acd (ks : List IntKind) (g : GE) (es : Nat) (i : SE) (A : List SA) : Nat → Nat → Option (List AV)
 | 0, _ => some []
 | n + 1, off => match nth ks off with
   | some k => (acd ks g es i A n (off + 1)).map (.sym k (akr g (a0g es off i)) A :: ·)
   | none => none
def arz (t : TypeId) (o i o' n : SE) (g : GE) (A : List SA) (w : W) (c : Nat) : OR := match o with
 | .bin 6 _ a d => bc (fw a o') (kj a (.c 0) A false c (kj d (.c 0) A false c (kj (js d i) n A true c (match wv t with
   | some none => .val (.sym .i64 (akr g (js d i)) A) w
   | _ => .no c)))) (.no c)
 | _ => .no c
def aor (i : SE) : List GP → Option AV
 | [] => none
 | .mk e t k :: l => bc (fw i e) (some (.iface t (.ptr k 0))) (aor i l)
def ary (t : TypeId) (es off : Nat) (i : SE) (ps : List GP) (w : W) (c : Nat) : OR := bc (Nat.beq es 1 && Nat.beq off 0) (match wv t, aor i ps with
 | some none, some v => .val v w
 | _, _ => .no c) (.no c)
def axq (t : TypeId) (p : AV) (w : W) (c : Nat) : OR := match p with
 | .gv (.ptr b es i off A) => (match cy b w with
   | .gob (.gh _ ks n g) => bc (Nat.beq (bv ks) es) (kj i n A true c (match wv t with
     | some none => (match acd ks g es i A 1 off with
       | some [v] => .val v w
       | _ => .no c)
     | some (some m) => (match acd ks g es i A m off with
       | some l => .val (.agg l) w
       | none => .no c)
     | none => .no c)) (.no c)
   | .gp _ _ _ _ ps => ary t es off i ps w c
   | _ => .no c)
 | .gv (.pr b o i A) => (match cy b w with
   | .gob (.rh o' n g) => bc (fw o o') (kj i n A true c (match wv t with
     | some none => .val (.sym .i64 (akr g i) A) w
     | _ => .no c)) (arz t o i o' n g A w c)
   | .gob (.rb o' n g) => bc (fw o o') (kj i n A true c (match wv t, eu false (akr g i) (.c 0) A with
     | some none, some r => .val (.bool (!r)) w
     | some none, none => .no (ago .eql (akr g i) (.c 0))
     | _, _ => .no c)) (.no c)
   | _ => .no c)
 | _ => .no c
def sk (t : TypeId) (x i : AV) (w : W) (c : Nat) : OR := match x, w9 i, ax t with
 | .gv (.sl b es n A), some e, some (.slice el) => bc (Nat.blt 0 es) (match sizeOf el with
   | some s => bc (Nat.beq s es) (kj e (.c 0) (orA A (aOf i)) false c (kj e n (orA A (aOf i)) true c (.val (.gv (.ptr b es e 0 (orA A (aOf i)))) w))) (.no c)
   | none => .no c) (.no c)
 | .gv (.sr b o n A), some e, some (.slice el) => (match sizeOf el with
   | some 1 => kj e (.c 0) (orA A (aOf i)) false c (kj e n (orA A (aOf i)) true c (.val (.gv (.pr b o e (orA A (aOf i)))) w))
   | _ => .no c)
 | _, _, _ => .no c
def als (t : TypeId) (x i : AV) (w : W) (c : Nat) : OR := match ak5 x, w9 i, ax t with
 | some g, some e, some .string => kj e (.c 0) (orA (aOf x) (aOf i)) false c (kj e (gf g) (orA (aOf x) (aOf i)) true c (.val (.sym .u8 (akr g e) (orA (aOf x) (aOf i))) w))
 | _, _, _ => .no c
def ah1 (op : BinOp) (g h : GE) (A : List SA) (w : W) (c : Nat) : OR := match op with
 | .add => kj (.c 9223372036854775807) (gf (oe g h)) A false c (.val (.gv (.str (oe g h) A)) w)
 | .eql => (match eu false (.eqg g h) (.c 1) A with
   | some r => .val (.bool r) w
   | none => .no (abq (.eqg g h) (.c 1)))
 | .neq => (match eu false (.eqg g h) (.c 1) A with
   | some r => .val (.bool (!r)) w
   | none => .no (abq (.eqg g h) (.c 1)))
 | _ => .no c
def a4i (op : BinOp) (k : IntKind) (a b : SE) (A : List SA) (w : W) (c : Nat) : OR := match op with
 | .and => .val (.sym k (.bin 8 k a b) A) w
 | .or => .val (.sym k (.bin 9 k a b) A) w
 | .xor => .val (.sym k (.bin 10 k a b) A) w
 | .andNot => .val (.sym k (.bin 13 k a b) A) w
 | _ => .no c
def ar0 (op : BinOp) (k : IntKind) (a b : SE) (A : List SA) (w : W) (c : Nat) : OR := match op with
 | .shl => kj b (.c 0) A false c (.val (.sym k (.bin 11 k a b) A) w)
 | .shr => kj b (.c 0) A false c (.val (.sym k (.bin 12 k a b) A) w)
 | _ => .no c
def bsz : BinOp → Bool
 | .shl | .shr => true
 | _ => false
def a4j (w : W) (A : List SA) : Nat → TypeId → AV → AV → Option Bool
 | 0, _, _, _ => none
 | d + 1, t, x, y => match ax t with
   | some (.int _) => (match w9 x, w9 y, knd x, knd y with
     | some a, some b, some k, some k' => bc (rq k k') (eu false a b A) none
     | _, _, _, _ => none)
   | some .string => (match ak5 x, ak5 y with
     | some g, some h => eu false (.eqg g h) (.c 1) A
     | _, _ => none)
   | some (.struct fs) => (match x, y with
     | .agg xs, .agg ys => bc (PP.stoodInHeld t) none (eqFields (a4j w A d) xs ys fs.toList)
     | _, _ => none)
   | _ => ai1 w 8 t x y
def agA : AV → List SA
 | .agg l => firstAs l
 | v => aOf v
where firstAs : List AV → List SA
 | [] => []
 | v :: l => orA (aOf v) (firstAs l)
def aq4 (A : List SA) : List AV → List AV → Nat
 | x :: l, y :: m => (match w9 x, w9 y with
   | some a, some b => (match eu false a b A with
     | some true => aq4 A l m
     | some false => 0
     | none => abq a b)
   | _, _ => aq4 A l m)
 | _, _ => 0
def afg (r : Bool) (t : TypeId) (a b : AV) (w : W) (c : Nat) : OR := match a4j w (orA (agA a) (agA b)) 3 t a b with
 | some q => .val (.bool (bc r q (!q))) w
 | none => (match a, b with
   | .agg xs, .agg ys => (match aq4 (orA (agA a) (agA b)) xs ys with
     | 0 => .no c
     | m => .no m)
   | _, _ => .no c)
def bhs : AV → Bool
 | .agg _ => true
 | _ => false
def bf3 (op : BinOp) (t : TypeId) (x y : Operand) (a b : AV) (w : W) (c : Nat) : OR :=
 match ak5 a, ak5 b with
 | some g, some h => ah1 op g h (orA (aOf a) (aOf b)) w c
 | _, _ => match w9 a, w9 b, knd a, knd b with
   | some e, some f, some k, some k' => bc (bsz op) (ar0 op k e f (orA (aOf a) (aOf b)) w c) (bc (rq k k') (a4i op k e f (orA (aOf a) (aOf b)) w c) (.no c))
   | _, _, _, _ => bc (bhs a && bhs b && vp t x y a b) (match op with
     | .eql => afg true t a b w c
     | .neq => afg false t a b w c
     | _ => .no c) (.no c)
def awb (src dst : TypeId) (x : AV) (w : W) (c : Nat) : OR := match ax src, ax dst, x with
 | some _, some (.int k), .sym _ e A => .val (.sym k (.bin 0 k e (.c 0)) A) w
 | some _, some .string, .sym _ e A => .val (.gv (.str (.enc e) A)) w
 | some _, some .string, .gv (.str g A) => .val (.gv (.str g A)) w
 | _, _, _ => .no c
def blr (o : Option AV) (d : SE) : Option SE := match o with
 | none => some d
 | some v => w9 v
def bll (o : Option AV) : List SA := match o with
 | none => []
 | some v => aOf v
def ah0 (t : TypeId) (x : AV) (lo hi mx : Option AV) (w : W) (c : Nat) : OR := match ax t, ak5 x, mx, blr lo (.c 0) with
 | some .string, some g, none, some l => (match blr hi (gf g) with
   | some h => (fun A => kj l (.c 0) A false c (kj h l A false c (kj (gf g) h A false c (.val (.gv (.str (.cut g l h) A)) w)))) (orA (aOf x) (orA (bll lo) (bll hi)))
   | none => .no c)
 | _, _, _, _ => .no c
def ar1 (t : TypeId) (b : K) (lo hi mx : Option AV) (w : W) (c : Nat) : OR := match ax t, hi, mx with
 | some (.slice e), some h, some m => (match sizeOf e, jp (some m) 0 0, jp (some h) 0 0, jp lo 0 0 with
   | some _, some _, some _, some _ => .val (.slice b 0 0 0 none) w
   | _, _, _, _ => .no c)
 | _, _, _ => .no c
def ahz (t : TypeId) (b : K) (o n : SE) (A : List SA) (lo hi mx : Option AV) (w : W) (c : Nat) : OR := match ax t, lo, hi, mx with
 | some (.slice e), some l', some h', none => (match sizeOf e, w9 l', w9 h' with
   | some 1, some l, some (.bin 0 .i64 l2 (.c 1)) => bc (fw l2 l) ((fun B => kj o (.c 0) B false c (kj l (.c 0) B false c (kj (.bin 0 .i64 l2 (.c 1)) l B false c (kj l n B true c (.val (.gv (.sr b (js o l) (.c 1) B)) w))))) (orA A (orA (aOf l') (aOf h')))) (.no c)
   | _, _, _ => .no c)
 | _, _, _, _ => .no c
def alu (t : TypeId) (x : AV) (lo hi mx : Option AV) (w : W) (c : Nat) : OR := match x with
 | .gv (.sl b _ _ _) => ar1 t b lo hi mx w c
 | .gv (.sr b o n A) => ahz t b o n A lo hi mx w c
 | _ => ah0 t x lo hi mx w c
def amo (e : SE) (k : IntKind) (A : List SA) : List (AV × AV) → Nat ⊕ Option AV
 | [] => .inr none
 | p :: es => match p.1 with
   | .int k' n => bc (rq k k') (match eu false e (.c n) A with
     | some true => .inr (some p.2)
     | some false => amo e k A es
     | none => .inl (abq e (.c n))) (.inl 0)
   | _ => .inl 0
def atu (t : TypeId) (k : IntKind) : Bool := match vr t with
 | some (.int k') => rq k k'
 | _ => false
def ac2 (t : TypeId) : Bool := match vr t with
 | some .string => true
 | _ => false
def bdj (ok : Bool) (z : AV) (w : W) (c : Nat) : Nat ⊕ Option AV → OR
 | .inr (some v) => ru ok v true w
 | .inr none => ru ok z false w
 | .inl 0 => .no c
 | .inl m => .no m
def ad9 (t : TypeId) (m k : AV) (ok : Bool) (w : W) (c : Nat) : OR := match m, nc t with
 | .map b, some z => (match cy b w with
   | .map es => (match k with
     | .sym kd e A => bc (nq t && atu t kd) (bdj ok z w c (amo e kd A es)) (.no c)
     | _ => .no c)
   | .gob (.gmap mg) => (match ak5 k, z with
     | some g, .int .i64 0 => bc (nq t && ac2 t) (match eu false (.mhas mg g) (.c 1) (aOf k) with
       | some true => ru ok (.sym .i64 (.mget mg g) (aOf k)) true w
       | some false => ru ok z false w
       | none => .no (abq (.mhas mg g) (.c 1))) (.no c)
     | _, _ => .no c)
   | _ => .no c)
 | _, _ => .no c
def ar2 (t : TypeId) (m k v : AV) (w : W) (c : Nat) : OR := match m with
 | .map b => (match cy b w with
   | .gob (.gmap mg) => (match ak5 k, w9 v, knd v with
     | some g, some e, some .i64 => bc (nq t && ac2 t) (match eu false (.mhas mg g) (.c 1) (orA (aOf k) (aOf v)) with
       | some false => .val ip (wset b (.gob (.gmap (oe (.one e) (oe (.one (gf g)) (oe g mg))))) w)
       | some true => .no c
       | none => .no (abq (.mhas mg g) (.c 1))) (.no c)
     | _, _, _ => .no c)
   | _ => .no c)
 | _ => .no c
def az3 (t : TypeId) (x : AV) (w : W) (c : Nat) : OR := match ax t, x with
 | some .string, .gv (.str g A) => n8 (.gob (.iter g (.c 0) A)) a7s w
 | _, _ => .no c
def bgf (it : AV) (isString : Bool) (w : W) (c : Nat) : OR := match it, isString with
 | .ptr b 0, true => (match cy b w with
   | .gob (.iter g pos A) => (match eu true pos (gf g) A with
     | some true => .val (.tuple [.bool true, .sym .i64 pos A, .sym .i32 (.dr g pos) A]) (wset b (.gob (.iter g (js pos (.dw g pos)) A)) w)
     | some false => .val (.tuple [.bool false]) w
     | none => .no (ajz pos (gf g)))
   | _ => .no c)
 | _, _ => .no c
def zu (ks : List IntKind) : Nat → List AV → Bool
 | _, [] => true
 | i, v :: l => (match nth ks (i % bv ks), knd v with
   | some k, some k' => bc (rq k k') (zu ks (i + 1) l) false
   | _, _ => false)
def bpd : Int → Bool
 | .ofNat n => Nat.ble n 255
 | _ => false
def u8E (A : List SA) : SE → Bool
 | .c n => bpd n
 | .bin 0 .u8 _ _ => true
 | .bin 1 .u8 _ _ => true
 | .bin 8 .u8 _ _ => true
 | .bin 9 .u8 _ _ => true
 | e => dLt e (.c 0) A false && dLt e (.c 256) A true
def atv (ks : List IntKind) : Bool := match ks with
 | [.u8] => true
 | _ => false
def an1 (A : List SA) : List AV → Bool
 | [] => true
 | v :: l => (match w9 v with
   | some e => bc (u8E A e) (an1 A l) false
   | none => false)
def tg : List AV → GE
 | [] => .nil
 | v :: l => (match w9 v with
   | some e => oe (.one e) (tg l)
   | none => .nil)
def y8 (l : List AV) : List SA := agA.firstAs l
def aq3 (b : K) (n : SE) (A : List SA) (w : W) (c : Nat) : OR := match cy b w with
 | .gob (.gh _ ks n' g) => bc (fw n n' && atv ks) (.val (.gv (.str g A)) w) (.no c)
 | _ => .no c
def alj (src dst : TypeId) (x : AV) (w : W) (c : Nat) : OR := match ax src, ax dst with
 | some (.slice e), some .string => (match ax e, x with
   | some (.int .u8), .gv (.sl b _ n A) => aq3 b n A w c
   | some (.int .u8), x => (match qz 1 x w with
     | some l => bc (zu [.u8] 0 l && an1 (y8 l) l) (.val (.gv (.str (tg l) (y8 l))) w) (.no c)
     | none => .no c)
   | _, _ => .no c)
 | _, _ => awb src dst x w c
def av5 (el : TypeId) (b : K) (es : Nat) (n : SE) (A : List SA) (new : List AV) (m : Nat) (w : W) (c : Nat) : OR := match cy b w with
 | .gob (.gh t ks n' g) => bc (Nat.beq t el && fw n n' && Nat.beq (bv ks) es && zu ks 0 new && (!atv ks || an1 A new))
    (n8 (.gob (.gh t ks (js n (.c (.ofNat m))) (oe g (tg new)))) (fun k => .gv (.sl k es (js n (.c (.ofNat m))) A)) (wset b .none w)) (.no c)
 | .gob (.junk t) => bc (Nat.beq t el && ah7 new) (n8 (.gob (.junk t)) (fun k => .gv (.sl k es (js n (.c (.ofNat m))) A)) (wset b .none w)) (.no c)
 | .gp false t n' g [] => (match new with
   | [.iface ty (.ptr kp 0)] => bc (Nat.beq t el && fw n n' && Nat.beq es 1 && Nat.beq m 1 && !K.beq kp b) (n8 (.gp false t (js n (.c (.ofNat m))) g [.mk n ty kp]) (fun k => .gv (.sl k es (js n (.c (.ofNat m))) A)) (wset b .none w)) (.no c)
   | _ => .no c)
 | _ => .no c
def av8 (el : TypeId) (b : K) (n : SE) (A : List SA) (h : GE) (w : W) (c : Nat) : OR := match cy b w with
 | .gob (.gh t ks n' g) => bc (Nat.beq t el && fw n n' && atv ks)
    (n8 (.gob (.gh t ks (js n (gf h)) (oe g h))) (fun k => .gv (.sl k 1 (js n (gf h)) A)) (wset b .none w)) (.no c)
 | _ => .no c
def ali (t : TypeId) (xt : Option TypeId) (s x : AV) (w : W) (c : Nat) : OR :=
 bc (afj xt) (match ax t, s with
 | some (.slice e), .gv (.sl b es n A) => (match sizeOf e, (gm e).map (·.bytes), jb e with
   | some size, some bytes, some z => bc (li z && Nat.beq (bv (cellsOf z)) size && Nat.beq size es && Nat.blt 0 es && Nat.ble bytes 1000000)
     (match ak5 x with
       | some h => bc (Nat.beq es 1) (kj (.c 400000) (js n (gf h)) (orA A (aOf x)) false c (av8 e b n (orA A (aOf x)) h w c)) (.no c)
       | none => (match nu size x w with
         | some (m, new) => kj (.c 400000) (js n (.c (.ofNat m))) (orA A (y8 new)) false c (av5 e b es n (orA A (y8 new)) new m w c)
         | none => .no c)) (.no c)
   | _, _, _ => .no c)
 | _, _ => .no c) (.no c)
def ado (t : TypeId) (xt : Option TypeId) (b : K) (es : Nat) (n : SE) (A : List SA) (w : W) (c : Nat) : OR :=
 bc (afj xt) (match ax t with
 | some (.slice e) => (match sizeOf e, (gm e).map (·.bytes), jb e, cy b w with
   | some size, some bytes, some z, .gob (.gh t' ks n' g) => bc (li z && Nat.beq (bv (cellsOf z)) size && Nat.beq size es && Nat.blt 0 es && Nat.ble bytes 1000000 && Nat.beq t' e && fw n n' && Nat.beq (bv ks) es)
      (kj (.c 0) n A true c (kj (.c 400000) n A false c (n8 (.gob (.gh t' ks n g)) (fun k => .gv (.sl k es n A)) w))) (.no c)
   | _, _, _, _ => .no c)
 | _ => .no c) (.no c)
def alh (t : TypeId) (xt : Option TypeId) (h : GE) (A : List SA) (w : W) (c : Nat) : OR :=
 bc (afj xt) (match ax t with
 | some (.slice e) => (match sizeOf e, (gm e).map (·.bytes), jb e with
   | some size, some bytes, some z => bc (li z && Nat.beq (bv (cellsOf z)) size && Nat.beq size 1 && Nat.ble bytes 1000000)
      (match eu true (.c 0) (gf h) A with
        | some true => kj (.c 400000) (gf h) A false c (n8 (.gob (.gh e [.u8] (gf h) h)) (fun k => .gv (.sl k 1 (gf h) A)) w)
        | some false => .val .nilSlice w
        | none => .no (ajz (.c 0) (gf h))) (.no c)
   | _, _, _ => .no c)
 | _ => .no c) (.no c)
def aq2 (t : TypeId) (xt : Option TypeId) (s x : AV) (w : W) (c : Nat) : OR := match s, x with
 | .slice _ _ 0 0 none, .gv (.sl b es n A) => ado t xt b es n A w c
 | .nilSlice, .gv (.sl b es n A) => ado t xt b es n A w c
 | .nilSlice, .gv (.str h A) => alh t xt h A w c
 | _, _ => ali t xt s x w c
def bgd (t : TypeId) (x : AV) (w : W) (c : Nat) : OR := match ax t, x with
 | some .string, .gv (.str g A) => .val (.sym .i64 (gf g) A) w
 | some (.slice _), .gv (.sl _ _ n A) => .val (.sym .i64 n A) w
 | some (.slice _), .gv (.sr _ _ n A) => .val (.sym .i64 n A) w
 | _, _ => .no c
def az4 (x : AV) (w : W) (c : Nat) : OR := match x with
 | .gv (.sl b es n A) => kj (.c 0) n A true c (.val (.gv (.ptr b es (.c 0) 0 A)) w)
 | _ => .no c
def alv (pt : TypeId) (p n : AV) (w : W) (c : Nat) : OR := match p, n with
 | .gv (.ptr b 1 (.c 0) 0 A), .sym .i64 e _ => (match cy b w with
   | .gob (.gh t ks n' g) => bc (fw e n' && atv ks) (match ax pt, sizeOf t with
     | some (.pointer u), some s => bc (Nat.beq t u && Nat.beq s 1) (kj (.c 0) e A true c (kj (.c 400000) e A false c (.val (.gv (.str g A)) (wset b .none w)))) (.no c)
     | _, _ => .no c) (.no c)
   | _ => .no c)
 | _, _ => .no c
def yf (b : Builtin) (ts : List TypeId) (vs : List AV) (w : W) (c : Nat) : OR := match b, ts, vs with
 | .len, t :: _, [x] => bgd t x w c
 | .append, t :: ts, [s, x] => aq2 t ts.head? s x w c
 | .unsafeString, [t, _], [p, n] => alv t p n w c
 | .unsafeSliceData, _, [x] => az4 x w c
 | _, _, _ => .no c
def xOp (o : Op) (τ : F) (w : W) (c : Nat) : OR := match o with
 | .load t a => axq t (evX a τ) w c
 | .indexAddr t x i => sk t (evX x τ) (evX i τ) w c
 | .index t x i => als t (evX x τ) (evX i τ) w c
 | .binOp op t x y _ => bf3 op t x y (evX x τ) (evX y τ) w c
 | .convert s d x => alj s d (evX x τ) w c
 | .slice t x lo hi mx => alu t (evX x τ) (lo.map fun y => evX y τ) (hi.map fun y => evX y τ) (mx.map fun y => evX y τ) w c
 | .lookup t m k ok => ad9 t (evX m τ) (evX k τ) ok w c
 | .mapUpdate t m k v => ar2 t (evX m τ) (evX k τ) (evX v τ) w c
 | .range t x => az3 t (evX x τ) w c
 | .next it s => bgf (evX it τ) s w c
 | .call ⟨.builtin b, args, ts⟩ => yf b ts.toList (vn args.toList τ) w c
 | _ => .no c
def abm (e : SE) : List SA → Option Int
 | [] => none
 | .mk lt a b r :: l => match lt, b, r with
   | false, .c n, true => bc (fw e a) (some n) (abm e l)
   | _, _, _ => abm e l
def bki (o : Option Int) (k : IntKind) (e : SE) (A : List SA) : AV := match o with
 | some n => .int k n
 | none => .sym k e A
def aj5 : AV → AV
 | .sym k e A => bki (abm e A) k e A
 | v => v
def mj : OR → OR
 | .val v w => .val (aj5 v) w
 | r => r
def gOp (o : Op) (τ : F) (w : W) : OR := OR.rec (motive := fun _ => Op → F → W → OR) (fun v w' _ _ _ => .val (aj5 v) w') (fun f vs w' _ _ _ => .call f vs w') (fun b vs w' _ _ _ => .yld b vs w')
 (fun v w' _ _ _ => .pan v w') (fun d w' _ _ _ => .dfr d w') (fun w' _ _ _ => .rcv w') (fun c o τ w => mj (xOp o τ w c)) (fOp o τ w) o τ w
def zOp (o : Op) (τ : F) (w : W) : OR := mj (match aei o τ w with
 | .no c => xOp o τ w c
 | r => r)
def gD (o : Op) (τ : F) (w : W) : OR := OR.rec (motive := fun _ => Op → F → W → OR) (fun v w' _ _ _ => .val (aj5 v) w') (fun f vs w' _ _ _ => .call f vs w') (fun b vs w' _ _ _ => .yld b vs w')
 (fun v w' _ _ _ => .pan v w') (fun d w' _ _ _ => .dfr d w') (fun w' _ _ _ => .rcv w') (fun _ o τ w => zOp o τ w) (fOp o τ w) o τ w
end
end Go.Ev
