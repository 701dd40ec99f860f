import Derived.Test.YtkfdioikigponaaGreatDoorEvF
set_option linter.all false
namespace Go.Ev
noncomputable section
def aOf : AV → List SA
 | .sym _ _ A => A
 | .gv (.str _ A) => A
 | .gv (.sl _ _ _ A) => A
 | .gv (.ptr _ _ _ _ A) => A
 | .gv (.sr _ _ _ A) => A
 | .gv (.pr _ _ _ A) => A
 | _ => []
def orA (A B : List SA) : List SA := match A with
 | [] => B
 | a :: l => a :: l
def aek : AV → Option SE
 | .int _ n => some (.c n)
 | .sym _ e _ => some e
 | _ => none
def knd : AV → Option IntKind
 | .int k _ => some k
 | .sym k _ _ => some k
 | _ => none
def u9 : SE → SE → SE
 | .c m, .c n => .c (Int.add m n)
 | .bin 6 k a (.c m), .c n => .bin 6 k a (.c (Int.add m n))
 | .c 0, b => b
 | a, .c 0 => a
 | a, b => .bin 6 .i64 a b
def lj : GE → SE
 | .nil => .c 0
 | .one _ => .c 1
 | .cat a b => u9 (lj a) (lj b)
 | .lit l _ => .c (.ofNat l)
 | g => .len g
def qy : GE → GE → GE
 | .nil, b => b
 | a, .nil => a
 | .lit l n, .lit l' n' => bc (Nat.blt n' (Nat.pow 256 l')) (.lit (l + l') (n * Nat.pow 256 l' + n')) (.cat (.lit l n) (.lit l' n'))
 | .cat a (.lit l n), .lit l' n' => bc (Nat.blt n' (Nat.pow 256 l')) (.cat a (.lit (l + l') (n * Nat.pow 256 l' + n'))) (.cat (.cat a (.lit l n)) (.lit l' n'))
 | a, b => .cat a b
def adi (o : Option Bool) (b : Bool) : Bool := match o with
 | some c => aeo c b
 | none => false
def dLt (a b : SE) (A : List SA) (r : Bool) : Bool := adi (gz true a b A) r
def bc0 (es off : Nat) (i : SE) : SE := bc (Nat.beq es 1) (bc (Nat.beq off 0) i (u9 i (.c (.ofNat off)))) (u9 (.bin 7 .i64 (.c (.ofNat es)) i) (.c (.ofNat off)))
def bl7 (g : GE) (e : SE) : SE := .rd g e
def azm (a b : SE) : Nat := agr (fun x => j3 x 1) (j0 a) (j0 b)
def afo (a b : SE) : Nat := agr (fun x => j3 x 0) (j0 a) (j0 b)
def to (a b : SE) (A : List SA) (r : Bool) (c : Nat) (k : OR) : OR := match gz true a b A with
 | some x => bc (aeo x r) k (.no c)
 | none => .no (azm a b)
def aqa : AV → Option GE
 | .str l n => some (.lit l n)
 | .gv (.str g _) => some g
 | _ => none
def age (ks : List IntKind) (g : GE) (es : Nat) (i : SE) (A : List SA) : Nat → Nat → Option (List AV)
 | 0, _ => some []
 | n + 1, off => match nth ks off with
   | some k => (age ks g es i A n (off + 1)).map (.sym k (bl7 g (bc0 es off i)) A :: ·)
   | none => none
def a2n (t : TypeId) (p : AV) (w : W) (c : Nat) : OR := match p with
 | .gv (.ptr b es i off A) => (match dy b w with
   | .gob (.gh _ ks n g) => bc (Nat.beq (cy ks) es) (to i n A true c (match aix t with
     | some none => (match age ks g es i A 1 off with
       | some [v] => .val v w
       | _ => .no c)
     | some (some m) => (match age ks g es i A m off with
       | some l => .val (.agg l) w
       | none => .no c)
     | none => .no c)) (.no c)
   | _ => .no c)
 | .gv (.pr b o i A) => (match dy b w with
   | .gob (.rh o' n g) => bc (kg o o') (to i n A true c (match aix t with
     | some none => .val (.sym .i64 (bl7 g i) A) w
     | _ => .no c)) (.no c)
   | _ => .no c)
 | _ => .no c
def vo (t : TypeId) (x i : AV) (w : W) (c : Nat) : OR := match x, aek i, bi t with
 | .gv (.sl b es n A), some e, some (.slice el) => bc (Nat.blt 0 es) (match sizeOf el with
   | some s => bc (Nat.beq s es) (to e (.c 0) (orA A (aOf i)) false c (to e n (orA A (aOf i)) true c (.val (.gv (.ptr b es e 0 (orA A (aOf i)))) w))) (.no c)
   | none => .no c) (.no c)
 | .gv (.sr b o n A), some e, some (.slice el) => (match sizeOf el with
   | some 1 => to e (.c 0) (orA A (aOf i)) false c (to e n (orA A (aOf i)) true c (.val (.gv (.pr b o e (orA A (aOf i)))) w))
   | _ => .no c)
 | _, _, _ => .no c
def an2 (t : TypeId) (x i : AV) (w : W) (c : Nat) : OR := match aqa x, aek i, bi t with
 | some g, some e, some .string => to e (.c 0) (orA (aOf x) (aOf i)) false c (to e (lj g) (orA (aOf x) (aOf i)) true c (.val (.sym .u8 (bl7 g e) (orA (aOf x) (aOf i))) w))
 | _, _, _ => .no c
def am4 (op : BinOp) (g h : GE) (A : List SA) (w : W) (c : Nat) : OR := match op with
 | .add => to (.c 9223372036854775807) (lj (qy g h)) A false c (.val (.gv (.str (qy g h) A)) w)
 | .eql => (match gz false (.eqg g h) (.c 1) A with
   | some r => .val (.bool r) w
   | none => .no (afo (.eqg g h) (.c 1)))
 | .neq => (match gz false (.eqg g h) (.c 1) A with
   | some r => .val (.bool (!r)) w
   | none => .no (afo (.eqg g h) (.c 1)))
 | _ => .no c
def a9o (op : BinOp) (k : IntKind) (a b : SE) (A : List SA) (w : W) (c : Nat) : OR := match op with
 | .and => .val (.sym k (.bin 8 k a b) A) w
 | .or => .val (.sym k (.bin 9 k a b) A) w
 | .xor => .val (.sym k (.bin 10 k a b) A) w
 | .andNot => .val (.sym k (.bin 13 k a b) A) w
 | _ => .no c
def ay8 (op : BinOp) (k : IntKind) (a b : SE) (A : List SA) (w : W) (c : Nat) : OR := match op with
 | .shl => to b (.c 0) A false c (.val (.sym k (.bin 11 k a b) A) w)
 | .shr => to b (.c 0) A false c (.val (.sym k (.bin 12 k a b) A) w)
 | _ => .no c
def ccf : BinOp → Bool
 | .shl | .shr => true
 | _ => false
def bd1 (w : W) (A : List SA) : Nat → TypeId → AV → AV → Option Bool
 | 0, _, _, _ => none
 | d + 1, t, x, y => match bi t with
   | some (.int _) => (match aek x, aek y, knd x, knd y with
     | some a, some b, some k, some k' => bc (v8 k k') (gz false a b A) none
     | _, _, _, _ => none)
   | some .string => (match aqa x, aqa y with
     | some g, some h => gz false (.eqg g h) (.c 1) A
     | _, _ => none)
   | some (.struct fs) => (match x, y with
     | .agg xs, .agg ys => bc (PP.stoodInHeld t) none (eqFields (bd1 w A d) xs ys fs.toList)
     | _, _ => none)
   | _ => arh w 8 t x y
def agA : AV → List SA
 | .agg l => firstAs l
 | v => aOf v
where firstAs : List AV → List SA
 | [] => []
 | v :: l => orA (aOf v) (firstAs l)
def aw9 (A : List SA) : List AV → List AV → Nat
 | x :: l, y :: m => (match aek x, aek y with
   | some a, some b => (match gz false a b A with
     | some true => aw9 A l m
     | some false => 0
     | none => afo a b)
   | _, _ => aw9 A l m)
 | _, _ => 0
def ajc (r : Bool) (t : TypeId) (a b : AV) (w : W) (c : Nat) : OR := match bd1 w (orA (agA a) (agA b)) 3 t a b with
 | some q => .val (.bool (bc r q (!q))) w
 | none => (match a, b with
   | .agg xs, .agg ys => (match aw9 (orA (agA a) (agA b)) xs ys with
     | 0 => .no c
     | m => .no m)
   | _, _ => .no c)
def bp4 : AV → Bool
 | .agg _ => true
 | _ => false
def blx (op : BinOp) (t : TypeId) (x y : Operand) (a b : AV) (w : W) (c : Nat) : OR :=
 match aqa a, aqa b with
 | some g, some h => am4 op g h (orA (aOf a) (aOf b)) w c
 | _, _ => match aek a, aek b, knd a, knd b with
   | some e, some f, some k, some k' => bc (ccf op) (ay8 op k e f (orA (aOf a) (aOf b)) w c) (bc (v8 k k') (a9o op k e f (orA (aOf a) (aOf b)) w c) (.no c))
   | _, _, _, _ => bc (bp4 a && bp4 b && aat t x y a b) (match op with
     | .eql => ajc true t a b w c
     | .neq => ajc false t a b w c
     | _ => .no c) (.no c)
def a4g (src dst : TypeId) (x : AV) (w : W) (c : Nat) : OR := match bi src, bi dst, x with
 | some _, some (.int k), .sym _ e A => .val (.sym k (.bin 0 k e (.c 0)) A) w
 | some _, some .string, .sym _ e A => .val (.gv (.str (.enc e) A)) w
 | some _, some .string, .gv (.str g A) => .val (.gv (.str g A)) w
 | _, _, _ => .no c
def b2q (o : Option AV) (d : SE) : Option SE := match o with
 | none => some d
 | some v => aek v
def b3f (o : Option AV) : List SA := match o with
 | none => []
 | some v => aOf v
def alq (t : TypeId) (x : AV) (lo hi mx : Option AV) (w : W) (c : Nat) : OR := match bi t, aqa x, mx, b2q lo (.c 0) with
 | some .string, some g, none, some l => (match b2q hi (lj g) with
   | some h => (fun A => to l (.c 0) A false c (to h l A false c (to (lj g) h A false c (.val (.gv (.str (.cut g l h) A)) w)))) (orA (aOf x) (orA (b3f lo) (b3f hi)))
   | none => .no c)
 | _, _, _, _ => .no c
def ayi (t : TypeId) (b : K) (lo hi mx : Option AV) (w : W) (c : Nat) : OR := match bi t, hi, mx with
 | some (.slice e), some h, some m => (match sizeOf e, lq (some m) 0 0, lq (some h) 0 0, lq lo 0 0 with
   | some _, some _, some _, some _ => .val (.slice b 0 0 0 none) w
   | _, _, _, _ => .no c)
 | _, _, _ => .no c
def aqv (t : TypeId) (x : AV) (lo hi mx : Option AV) (w : W) (c : Nat) : OR := match x with
 | .gv (.sl b _ _ _) => ayi t b lo hi mx w c
 | _ => alq t x lo hi mx w c
def auk (e : SE) (k : IntKind) (A : List SA) : List (AV × AV) → Nat ⊕ Option AV
 | [] => .inr none
 | p :: es => match p.1 with
   | .int k' n => bc (v8 k k') (match gz false e (.c n) A with
     | some true => .inr (some p.2)
     | some false => auk e k A es
     | none => .inl (afo e (.c n))) (.inl 0)
   | _ => .inl 0
def a1m (t : TypeId) (k : IntKind) : Bool := match aau t with
 | some (.int k') => v8 k k'
 | _ => false
def agz (t : TypeId) : Bool := match aau t with
 | some .string => true
 | _ => false
def blg (ok : Bool) (z : AV) (w : W) (c : Nat) : Nat ⊕ Option AV → OR
 | .inr (some v) => wb ok v true w
 | .inr none => wb ok z false w
 | .inl 0 => .no c
 | .inl m => .no m
def ah8 (t : TypeId) (m k : AV) (ok : Bool) (w : W) (c : Nat) : OR := match m, qt t with
 | .map b, some z => (match dy b w with
   | .map es => (match k with
     | .sym kd e A => bc (qh t && a1m t kd) (blg ok z w c (auk e kd A es)) (.no c)
     | _ => .no c)
   | .gob (.gmap mg) => (match aqa k, z with
     | some g, .int .i64 0 => bc (qh t && agz t) (match gz false (.mhas mg g) (.c 1) (aOf k) with
       | some true => wb ok (.sym .i64 (.mget mg g) (aOf k)) true w
       | some false => wb ok z false w
       | none => .no (afo (.mhas mg g) (.c 1))) (.no c)
     | _, _ => .no c)
   | _ => .no c)
 | _, _ => .no c
def axr (t : TypeId) (m k v : AV) (w : W) (c : Nat) : OR := match m with
 | .map b => (match dy b w with
   | .gob (.gmap mg) => (match aqa k, aek v, knd v with
     | some g, some e, some .i64 => bc (qh t && agz t) (match gz false (.mhas mg g) (.c 1) (orA (aOf k) (aOf v)) with
       | some false => .val jt (wset b (.gob (.gmap (qy (.one e) (qy (.one (lj g)) (qy g mg))))) w)
       | some true => .no c
       | none => .no (afo (.mhas mg g) (.c 1))) (.no c)
     | _, _, _ => .no c)
   | _ => .no c)
 | _ => .no c
def a4q (t : TypeId) (x : AV) (w : W) (c : Nat) : OR := match bi t, x with
 | some .string, .gv (.str g A) => tj (.gob (.iter g (.c 0) A)) be7 w
 | _, _ => .no c
def bmi (it : AV) (isString : Bool) (w : W) (c : Nat) : OR := match it, isString with
 | .ptr b 0, true => (match dy b w with
   | .gob (.iter g pos A) => (match gz true pos (lj g) A with
     | some true => .val (.tuple [.bool true, .sym .i64 pos A, .sym .i32 (.dr g pos) A]) (wset b (.gob (.iter g (u9 pos (.dw g pos)) A)) w)
     | some false => .val (.tuple [.bool false]) w
     | none => .no (azm pos (lj g)))
   | _ => .no c)
 | _, _ => .no c
def aed (ks : List IntKind) : Nat → List AV → Bool
 | _, [] => true
 | i, v :: l => (match nth ks (i % cy ks), knd v with
   | some k, some k' => bc (v8 k k') (aed ks (i + 1) l) false
   | _, _ => false)
def b52 : Int → Bool
 | .ofNat n => Nat.ble n 255
 | _ => false
def u8E (A : List SA) : SE → Bool
 | .c n => b52 n
 | .bin 0 .u8 _ _ => true
 | .bin 1 .u8 _ _ => true
 | .bin 8 .u8 _ _ => true
 | .bin 9 .u8 _ _ => true
 | e => dLt e (.c 0) A false && dLt e (.c 256) A true
def a4w (ks : List IntKind) : Bool := match ks with
 | [.u8] => true
 | _ => false
def as9 (A : List SA) : List AV → Bool
 | [] => true
 | v :: l => (match aek v with
   | some e => bc (u8E A e) (as9 A l) false
   | none => false)
def w8 : List AV → GE
 | [] => .nil
 | v :: l => (match aek v with
   | some e => qy (.one e) (w8 l)
   | none => .nil)
def aea (l : List AV) : List SA := agA.firstAs l
def apf (src dst : TypeId) (x : AV) (w : W) (c : Nat) : OR := match bi src, bi dst with
 | some (.slice e), some .string => (match bi e, uw 1 x w with
   | some (.int .u8), some l => bc (aed [.u8] 0 l && as9 (aea l) l) (.val (.gv (.str (w8 l) (aea l))) w) (.no c)
   | _, _ => .no c)
 | _, _ => a4g src dst x w c
def a4f (el : TypeId) (b : K) (es : Nat) (n : SE) (A : List SA) (new : List AV) (m : Nat) (w : W) (c : Nat) : OR := match dy b w with
 | .gob (.gh t ks n' g) => bc (Nat.beq t el && kg n n' && Nat.beq (cy ks) es && aed ks 0 new && (!a4w ks || as9 A new))
    (tj (.gob (.gh t ks (u9 n (.c (.ofNat m))) (qy g (w8 new)))) (fun k => .gv (.sl k es (u9 n (.c (.ofNat m))) A)) (wset b .none w)) (.no c)
 | .gob (.junk t) => bc (Nat.beq t el && aoj new) (tj (.gob (.junk t)) (fun k => .gv (.sl k es (u9 n (.c (.ofNat m))) A)) (wset b .none w)) (.no c)
 | _ => .no c
def a0c (el : TypeId) (b : K) (n : SE) (A : List SA) (h : GE) (w : W) (c : Nat) : OR := match dy b w with
 | .gob (.gh t ks n' g) => bc (Nat.beq t el && kg n n' && a4w ks)
    (tj (.gob (.gh t ks (u9 n (lj h)) (qy g h))) (fun k => .gv (.sl k 1 (u9 n (lj h)) A)) (wset b .none w)) (.no c)
 | _ => .no c
def asd (t : TypeId) (xt : Option TypeId) (s x : AV) (w : W) (c : Nat) : OR :=
 bc (aqx xt) (match bi t, s with
 | some (.slice e), .gv (.sl b es n A) => (match sizeOf e, (jk e).map (·.bytes), lc e with
   | some size, some bytes, some z => bc (pc z && Nat.beq (cy (cellsOf z)) size && Nat.beq size es && Nat.blt 0 es && Nat.ble bytes 1000000)
     (match aqa x with
       | some h => bc (Nat.beq es 1) (to (.c 60000) (u9 n (lj h)) (orA A (aOf x)) false c (a0c e b n (orA A (aOf x)) h w c)) (.no c)
       | none => (match qn size x w with
         | some (m, new) => to (.c 60000) (u9 n (.c (.ofNat m))) (orA A (aea new)) false c (a4f e b es n (orA A (aea new)) new m w c)
         | none => .no c)) (.no c)
   | _, _, _ => .no c)
 | _, _ => .no c) (.no c)
def aia (t : TypeId) (xt : Option TypeId) (b : K) (es : Nat) (n : SE) (A : List SA) (w : W) (c : Nat) : OR :=
 bc (aqx xt) (match bi t with
 | some (.slice e) => (match sizeOf e, (jk e).map (·.bytes), lc e, dy b w with
   | some size, some bytes, some z, .gob (.gh t' ks n' g) => bc (pc z && Nat.beq (cy (cellsOf z)) size && Nat.beq size es && Nat.blt 0 es && Nat.ble bytes 1000000 && Nat.beq t' e && kg n n' && Nat.beq (cy ks) es)
      (to (.c 0) n A true c (to (.c 60000) n A false c (tj (.gob (.gh t' ks n g)) (fun k => .gv (.sl k es n A)) w))) (.no c)
   | _, _, _, _ => .no c)
 | _ => .no c) (.no c)
def awb (t : TypeId) (xt : Option TypeId) (s x : AV) (w : W) (c : Nat) : OR := match s, x with
 | .slice _ _ 0 0 none, .gv (.sl b es n A) => aia t xt b es n A w c
 | .nilSlice, .gv (.sl b es n A) => aia t xt b es n A w c
 | _, _ => asd t xt s x w c
def bhq (t : TypeId) (x : AV) (w : W) (c : Nat) : OR := match bi t, x with
 | some .string, .gv (.str g A) => .val (.sym .i64 (lj g) A) w
 | some (.slice _), .gv (.sl _ _ n A) => .val (.sym .i64 n A) w
 | some (.slice _), .gv (.sr _ _ n A) => .val (.sym .i64 n A) w
 | _, _ => .no c
def a6o (x : AV) (w : W) (c : Nat) : OR := match x with
 | .gv (.sl b es n A) => to (.c 0) n A true c (.val (.gv (.ptr b es (.c 0) 0 A)) w)
 | _ => .no c
def aoh (pt : TypeId) (p n : AV) (w : W) (c : Nat) : OR := match p, n with
 | .gv (.ptr b 1 (.c 0) 0 A), .sym .i64 e _ => (match dy b w with
   | .gob (.gh t ks n' g) => bc (kg e n' && a4w ks) (match bi pt, sizeOf t with
     | some (.pointer u), some s => bc (Nat.beq t u && Nat.beq s 1) (to (.c 0) e A true c (to (.c 60000) e A false c (.val (.gv (.str g A)) (wset b .none w)))) (.no c)
     | _, _ => .no c) (.no c)
   | _ => .no c)
 | _, _ => .no c
def ab8 (b : Builtin) (ts : List TypeId) (vs : List AV) (w : W) (c : Nat) : OR := match b, ts, vs with
 | .len, t :: _, [x] => bhq t x w c
 | .append, t :: ts, [s, x] => awb t ts.head? s x w c
 | .unsafeString, [t, _], [p, n] => aoh t p n w c
 | .unsafeSliceData, _, [x] => a6o x w c
 | _, _, _ => .no c
def xOp (o : Op) (τ : F) (w : W) (c : Nat) : OR := match o with
 | .load t a => a2n t (evX a τ) w c
 | .indexAddr t x i => vo t (evX x τ) (evX i τ) w c
 | .index t x i => an2 t (evX x τ) (evX i τ) w c
 | .binOp op t x y _ => blx op t x y (evX x τ) (evX y τ) w c
 | .convert s d x => apf s d (evX x τ) w c
 | .slice t x lo hi mx => aqv t (evX x τ) (lo.map fun y => evX y τ) (hi.map fun y => evX y τ) (mx.map fun y => evX y τ) w c
 | .lookup t m k ok => ah8 t (evX m τ) (evX k τ) ok w c
 | .mapUpdate t m k v => axr t (evX m τ) (evX k τ) (evX v τ) w c
 | .range t x => a4q t (evX x τ) w c
 | .next it s => bmi (evX it τ) s w c
 | .call ⟨.builtin b, args, ts⟩ => ab8 b ts.toList (aa1 args.toList τ) w c
 | _ => .no c
def ae7 (e : SE) : List SA → Option Int
 | [] => none
 | .mk lt a b r :: l => match lt, b, r with
   | false, .c n, true => bc (kg e a) (some n) (ae7 e l)
   | _, _, _ => ae7 e l
def bw6 (o : Option Int) (k : IntKind) (e : SE) (A : List SA) : AV := match o with
 | some n => .int k n
 | none => .sym k e A
def asa : AV → AV
 | .sym k e A => bw6 (ae7 e A) k e A
 | v => v
def pw : OR → OR
 | .val v w => .val (asa v) w
 | r => r
def gOp (o : Op) (τ : F) (w : W) : OR := OR.rec (motive := fun _ => Op → F → W → OR) (fun v w' _ _ _ => .val (asa v) w') (fun f vs w' _ _ _ => .call f vs w') (fun b vs w' _ _ _ => .yld b vs w')
 (fun v w' _ _ _ => .pan v w') (fun d w' _ _ _ => .dfr d w') (fun w' _ _ _ => .rcv w') (fun c o τ w => pw (xOp o τ w c)) (fOp o τ w) o τ w
def zOp (o : Op) (τ : F) (w : W) : OR := pw (match akk o τ w with
 | .no c => xOp o τ w c
 | r => r)
def gD (o : Op) (τ : F) (w : W) : OR := OR.rec (motive := fun _ => Op → F → W → OR) (fun v w' _ _ _ => .val (asa v) w') (fun f vs w' _ _ _ => .call f vs w') (fun b vs w' _ _ _ => .yld b vs w')
 (fun v w' _ _ _ => .pan v w') (fun d w' _ _ _ => .dfr d w') (fun w' _ _ _ => .rcv w') (fun _ o τ w => zOp o τ w) (fOp o τ w) o τ w
end
end Go.Ev
