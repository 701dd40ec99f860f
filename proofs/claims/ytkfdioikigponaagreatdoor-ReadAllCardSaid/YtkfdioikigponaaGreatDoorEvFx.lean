import Derived.Test.YtkfdioikigponaaGreatDoorEvF
set_option linter.all false
namespace Go.Ev
noncomputable section
def aOf : AV → List SA
 | .sym _ _ A => A
 | .gv (.str _ A) => A
 | .gv (.sl _ _ _ A) => A
 | .gv (.ptr _ _ _ _ A) => A
 | .gv (.sr _ _ _ A) => A
 | .gv (.pr _ _ _ A) => A
 | _ => []
def orA (A B : List SA) : List SA := match A with
 | [] => B
 | a :: l => a :: l
def ae3 : AV → Option SE
 | .int _ n => some (.c n)
 | .sym _ e _ => some e
 | _ => none
def knd : AV → Option IntKind
 | .int k _ => some k
 | .sym k _ _ => some k
 | _ => none
def wb : SE → SE → SE
 | .c m, .c n => .c (Int.add m n)
 | .bin 6 k a (.c m), .c n => .bin 6 k a (.c (Int.add m n))
 | .c 0, b => b
 | a, .c 0 => a
 | a, b => .bin 6 .i64 a b
def kw : GE → SE
 | .nil => .c 0
 | .one _ => .c 1
 | .cat a b => wb (kw a) (kw b)
 | .lit l _ => .c (.ofNat l)
 | g => .len g
def qy : GE → GE → GE
 | .nil, b => b
 | a, .nil => a
 | .lit l n, .lit l' n' => bc (Nat.blt n' (Nat.pow 256 l')) (.lit (l + l') (n * Nat.pow 256 l' + n')) (.cat (.lit l n) (.lit l' n'))
 | .cat a (.lit l n), .lit l' n' => bc (Nat.blt n' (Nat.pow 256 l')) (.cat a (.lit (l + l') (n * Nat.pow 256 l' + n'))) (.cat (.cat a (.lit l n)) (.lit l' n'))
 | a, b => .cat a b
def adj (o : Option Bool) (b : Bool) : Bool := match o with
 | some c => afc c b
 | none => false
def dLt (a b : SE) (A : List SA) (r : Bool) : Bool := adj (gr true a b A) r
def a88 (es off : Nat) (i : SE) : SE := bc (Nat.beq es 1) (bc (Nat.beq off 0) i (wb i (.c (.ofNat off)))) (wb (.bin 7 .i64 (.c (.ofNat es)) i) (.c (.ofNat off)))
def bm4 (g : GE) (e : SE) : SE := .rd g e
def az1 (a b : SE) : Nat := agu (fun x => jx x 1) (jw a) (jw b)
def ago (a b : SE) : Nat := agu (fun x => jx x 0) (jw a) (jw b)
def tj (a b : SE) (A : List SA) (r : Bool) (c : Nat) (k : OR) : OR := match gr true a b A with
 | some x => bc (afc x r) k (.no c)
 | none => .no (az1 a b)
def arf : AV → Option GE
 | .str l n => some (.lit l n)
 | .gv (.str g _) => some g
 | _ => none
def aij (ks : List IntKind) (g : GE) (es : Nat) (i : SE) (A : List SA) : Nat → Nat → Option (List AV)
 | 0, _ => some []
 | n + 1, off => match nth ks off with
   | some k => (aij ks g es i A n (off + 1)).map (.sym k (bm4 g (a88 es off i)) A :: ·)
   | none => none
def a1c (t : TypeId) (p : AV) (w : W) (c : Nat) : OR := match p with
 | .gv (.ptr b es i off A) => (match d7 b w with
   | .gob (.gh _ ks n g) => bc (Nat.beq (cj ks) es) (tj i n A true c (match aif t with
     | some none => (match aij ks g es i A 1 off with
       | some [v] => .val v w
       | _ => .no c)
     | some (some m) => (match aij ks g es i A m off with
       | some l => .val (.agg l) w
       | none => .no c)
     | none => .no c)) (.no c)
   | _ => .no c)
 | .gv (.pr b o i A) => (match d7 b w with
   | .gob (.rh o' n g) => bc (j8 o o') (tj i n A true c (match aif t with
     | some none => .val (.sym .i64 (bm4 g i) A) w
     | _ => .no c)) (.no c)
   | _ => .no c)
 | _ => .no c
def vk (t : TypeId) (x i : AV) (w : W) (c : Nat) : OR := match x, ae3 i, bq t with
 | .gv (.sl b es n A), some e, some (.slice el) => bc (Nat.blt 0 es) (match sizeOf el with
   | some s => bc (Nat.beq s es) (tj e (.c 0) (orA A (aOf i)) false c (tj e n (orA A (aOf i)) true c (.val (.gv (.ptr b es e 0 (orA A (aOf i)))) w))) (.no c)
   | none => .no c) (.no c)
 | .gv (.sr b o n A), some e, some (.slice el) => (match sizeOf el with
   | some 1 => tj e (.c 0) (orA A (aOf i)) false c (tj e n (orA A (aOf i)) true c (.val (.gv (.pr b o e (orA A (aOf i)))) w))
   | _ => .no c)
 | _, _, _ => .no c
def api (t : TypeId) (x i : AV) (w : W) (c : Nat) : OR := match arf x, ae3 i, bq t with
 | some g, some e, some .string => tj e (.c 0) (orA (aOf x) (aOf i)) false c (tj e (kw g) (orA (aOf x) (aOf i)) true c (.val (.sym .u8 (bm4 g e) (orA (aOf x) (aOf i))) w))
 | _, _, _ => .no c
def an2 (op : BinOp) (g h : GE) (A : List SA) (w : W) (c : Nat) : OR := match op with
 | .add => tj (.c 9223372036854775807) (kw (qy g h)) A false c (.val (.gv (.str (qy g h) A)) w)
 | .eql => (match gr false (.eqg g h) (.c 1) A with
   | some r => .val (.bool r) w
   | none => .no (ago (.eqg g h) (.c 1)))
 | .neq => (match gr false (.eqg g h) (.c 1) A with
   | some r => .val (.bool (!r)) w
   | none => .no (ago (.eqg g h) (.c 1)))
 | _ => .no c
def a9h (op : BinOp) (k : IntKind) (a b : SE) (A : List SA) (w : W) (c : Nat) : OR := match op with
 | .and => .val (.sym k (.bin 8 k a b) A) w
 | .or => .val (.sym k (.bin 9 k a b) A) w
 | .xor => .val (.sym k (.bin 10 k a b) A) w
 | .andNot => .val (.sym k (.bin 13 k a b) A) w
 | _ => .no c
def ay8 (op : BinOp) (k : IntKind) (a b : SE) (A : List SA) (w : W) (c : Nat) : OR := match op with
 | .shl => tj b (.c 0) A false c (.val (.sym k (.bin 11 k a b) A) w)
 | .shr => tj b (.c 0) A false c (.val (.sym k (.bin 12 k a b) A) w)
 | _ => .no c
def b9d : BinOp → Bool
 | .shl | .shr => true
 | _ => false
def ba7 (w : W) (A : List SA) : Nat → TypeId → AV → AV → Option Bool
 | 0, _, _, _ => none
 | d + 1, t, x, y => match bq t with
   | some (.int _) => (match ae3 x, ae3 y, knd x, knd y with
     | some a, some b, some k, some k' => bc (vp k k') (gr false a b A) none
     | _, _, _, _ => none)
   | some .string => (match arf x, arf y with
     | some g, some h => gr false (.eqg g h) (.c 1) A
     | _, _ => none)
   | some (.struct fs) => (match x, y with
     | .agg xs, .agg ys => bc (PP.stoodInHeld t) none (eqFields (ba7 w A d) xs ys fs.toList)
     | _, _ => none)
   | _ => aop w 8 t x y
def agA : AV → List SA
 | .agg l => firstAs l
 | v => aOf v
where firstAs : List AV → List SA
 | [] => []
 | v :: l => orA (aOf v) (firstAs l)
def avp (A : List SA) : List AV → List AV → Nat
 | x :: l, y :: m => (match ae3 x, ae3 y with
   | some a, some b => (match gr false a b A with
     | some true => avp A l m
     | some false => 0
     | none => ago a b)
   | _, _ => avp A l m)
 | _, _ => 0
def akq (r : Bool) (t : TypeId) (a b : AV) (w : W) (c : Nat) : OR := match ba7 w (orA (agA a) (agA b)) 3 t a b with
 | some q => .val (.bool (bc r q (!q))) w
 | none => (match a, b with
   | .agg xs, .agg ys => (match avp (orA (agA a) (agA b)) xs ys with
     | 0 => .no c
     | m => .no m)
   | _, _ => .no c)
def bqn : AV → Bool
 | .agg _ => true
 | _ => false
def bmd (op : BinOp) (t : TypeId) (x y : Operand) (a b : AV) (w : W) (c : Nat) : OR :=
 match arf a, arf b with
 | some g, some h => an2 op g h (orA (aOf a) (aOf b)) w c
 | _, _ => match ae3 a, ae3 b, knd a, knd b with
   | some e, some f, some k, some k' => bc (b9d op) (ay8 op k e f (orA (aOf a) (aOf b)) w c) (bc (vp k k') (a9h op k e f (orA (aOf a) (aOf b)) w c) (.no c))
   | _, _, _, _ => bc (bqn a && bqn b && zk t x y a b) (match op with
     | .eql => akq true t a b w c
     | .neq => akq false t a b w c
     | _ => .no c) (.no c)
def a3i (src dst : TypeId) (x : AV) (w : W) (c : Nat) : OR := match bq src, bq dst, x with
 | some _, some (.int k), .sym _ e A => .val (.sym k (.bin 0 k e (.c 0)) A) w
 | some _, some .string, .sym _ e A => .val (.gv (.str (.enc e) A)) w
 | some _, some .string, .gv (.str g A) => .val (.gv (.str g A)) w
 | _, _, _ => .no c
def b0v (o : Option AV) (d : SE) : Option SE := match o with
 | none => some d
 | some v => ae3 v
def b16 (o : Option AV) : List SA := match o with
 | none => []
 | some v => aOf v
def anw (t : TypeId) (x : AV) (lo hi mx : Option AV) (w : W) (c : Nat) : OR := match bq t, arf x, mx, b0v lo (.c 0) with
 | some .string, some g, none, some l => (match b0v hi (kw g) with
   | some h => (fun A => tj l (.c 0) A false c (tj h l A false c (tj (kw g) h A false c (.val (.gv (.str (.cut g l h) A)) w)))) (orA (aOf x) (orA (b16 lo) (b16 hi)))
   | none => .no c)
 | _, _, _, _ => .no c
def ax6 (t : TypeId) (b : K) (lo hi mx : Option AV) (w : W) (c : Nat) : OR := match bq t, hi, mx with
 | some (.slice e), some h, some m => (match sizeOf e, ky (some m) 0 0, ky (some h) 0 0, ky lo 0 0 with
   | some _, some _, some _, some _ => .val (.slice b 0 0 0 none) w
   | _, _, _, _ => .no c)
 | _, _, _ => .no c
def arw (t : TypeId) (x : AV) (lo hi mx : Option AV) (w : W) (c : Nat) : OR := match x with
 | .gv (.sl b _ _ _) => ax6 t b lo hi mx w c
 | _ => anw t x lo hi mx w c
def au1 (e : SE) (k : IntKind) (A : List SA) : List (AV × AV) → Nat ⊕ Option AV
 | [] => .inr none
 | p :: es => match p.1 with
   | .int k' n => bc (vp k k') (match gr false e (.c n) A with
     | some true => .inr (some p.2)
     | some false => au1 e k A es
     | none => .inl (ago e (.c n))) (.inl 0)
   | _ => .inl 0
def a3e (t : TypeId) (k : IntKind) : Bool := match abb t with
 | some (.int k') => vp k k'
 | _ => false
def air (t : TypeId) : Bool := match abb t with
 | some .string => true
 | _ => false
def blg (ok : Bool) (z : AV) (w : W) (c : Nat) : Nat ⊕ Option AV → OR
 | .inr (some v) => vv ok v true w
 | .inr none => vv ok z false w
 | .inl 0 => .no c
 | .inl m => .no m
def ag2 (t : TypeId) (m k : AV) (ok : Bool) (w : W) (c : Nat) : OR := match m, qq t with
 | .map b, some z => (match d7 b w with
   | .map es => (match k with
     | .sym kd e A => bc (qt t && a3e t kd) (blg ok z w c (au1 e kd A es)) (.no c)
     | _ => .no c)
   | .gob (.gmap mg) => (match arf k, z with
     | some g, .int .i64 0 => bc (qt t && air t) (match gr false (.mhas mg g) (.c 1) (aOf k) with
       | some true => vv ok (.sym .i64 (.mget mg g) (aOf k)) true w
       | some false => vv ok z false w
       | none => .no (ago (.mhas mg g) (.c 1))) (.no c)
     | _, _ => .no c)
   | _ => .no c)
 | _, _ => .no c
def axo (t : TypeId) (m k v : AV) (w : W) (c : Nat) : OR := match m with
 | .map b => (match d7 b w with
   | .gob (.gmap mg) => (match arf k, ae3 v, knd v with
     | some g, some e, some .i64 => bc (qt t && air t) (match gr false (.mhas mg g) (.c 1) (orA (aOf k) (aOf v)) with
       | some false => .val jq (wset b (.gob (.gmap (qy (.one e) (qy (.one (kw g)) (qy g mg))))) w)
       | some true => .no c
       | none => .no (ago (.mhas mg g) (.c 1))) (.no c)
     | _, _, _ => .no c)
   | _ => .no c)
 | _ => .no c
def a6g (t : TypeId) (x : AV) (w : W) (c : Nat) : OR := match bq t, x with
 | some .string, .gv (.str g A) => ti (.gob (.iter g (.c 0) A)) bf7 w
 | _, _ => .no c
def bou (it : AV) (isString : Bool) (w : W) (c : Nat) : OR := match it, isString with
 | .ptr b 0, true => (match d7 b w with
   | .gob (.iter g pos A) => (match gr true pos (kw g) A with
     | some true => .val (.tuple [.bool true, .sym .i64 pos A, .sym .i32 (.dr g pos) A]) (wset b (.gob (.iter g (wb pos (.dw g pos)) A)) w)
     | some false => .val (.tuple [.bool false]) w
     | none => .no (az1 pos (kw g)))
   | _ => .no c)
 | _, _ => .no c
def aiw (ks : List IntKind) : Nat → List AV → Bool
 | _, [] => true
 | i, v :: l => (match nth ks (i % cj ks), knd v with
   | some k, some k' => bc (vp k k') (aiw ks (i + 1) l) false
   | _, _ => false)
def b79 : Int → Bool
 | .ofNat n => Nat.ble n 255
 | _ => false
def u8E (A : List SA) : SE → Bool
 | .c n => b79 n
 | .bin 0 .u8 _ _ => true
 | .bin 1 .u8 _ _ => true
 | .bin 8 .u8 _ _ => true
 | .bin 9 .u8 _ _ => true
 | e => dLt e (.c 0) A false && dLt e (.c 256) A true
def a71 (ks : List IntKind) : Bool := match ks with
 | [.u8] => true
 | _ => false
def a38 (A : List SA) : List AV → Bool
 | [] => true
 | v :: l => (match ae3 v with
   | some e => bc (u8E A e) (a38 A l) false
   | none => false)
def ab5 : List AV → GE
 | [] => .nil
 | v :: l => (match ae3 v with
   | some e => qy (.one e) (ab5 l)
   | none => .nil)
def bci (l : List AV) : List SA := agA.firstAs l
def a29 (el : TypeId) (b : K) (es : Nat) (n : SE) (A : List SA) (new : List AV) (m : Nat) (w : W) (c : Nat) : OR := match d7 b w with
 | .gob (.gh t ks n' g) => bc (Nat.beq t el && j8 n n' && Nat.beq (cj ks) es && aiw ks 0 new && (!a71 ks || a38 A new))
    (ti (.gob (.gh t ks (wb n (.c (.ofNat m))) (qy g (ab5 new)))) (fun k => .gv (.sl k es (wb n (.c (.ofNat m))) A)) (wset b .none w)) (.no c)
 | .gob (.junk t) => bc (Nat.beq t el && aqt new) (ti (.gob (.junk t)) (fun k => .gv (.sl k es (wb n (.c (.ofNat m))) A)) (wset b .none w)) (.no c)
 | _ => .no c
def a4v (el : TypeId) (b : K) (n : SE) (A : List SA) (h : GE) (w : W) (c : Nat) : OR := match d7 b w with
 | .gob (.gh t ks n' g) => bc (Nat.beq t el && j8 n n' && a71 ks)
    (ti (.gob (.gh t ks (wb n (kw h)) (qy g h))) (fun k => .gv (.sl k 1 (wb n (kw h)) A)) (wset b .none w)) (.no c)
 | _ => .no c
def apo (t : TypeId) (xt : Option TypeId) (s x : AV) (w : W) (c : Nat) : OR :=
 bc (aq9 xt) (match bq t, s with
 | some (.slice e), .gv (.sl b es n A) => (match sizeOf e, (jg e).map (·.bytes), kh e with
   | some size, some bytes, some z => bc (pc z && Nat.beq (cj (cellsOf z)) size && Nat.beq size es && Nat.blt 0 es && Nat.ble bytes 1000000)
     (match arf x with
       | some h => bc (Nat.beq es 1) (tj (.c 60000) (wb n (kw h)) (orA A (aOf x)) false c (a4v e b n (orA A (aOf x)) h w c)) (.no c)
       | none => (match qe size x w with
         | some (m, new) => tj (.c 60000) (wb n (.c (.ofNat m))) (orA A (bci new)) false c (a29 e b es n (orA A (bci new)) new m w c)
         | none => .no c)) (.no c)
   | _, _, _ => .no c)
 | _, _ => .no c) (.no c)
def ahp (t : TypeId) (xt : Option TypeId) (b : K) (es : Nat) (n : SE) (A : List SA) (w : W) (c : Nat) : OR :=
 bc (aq9 xt) (match bq t with
 | some (.slice e) => (match sizeOf e, (jg e).map (·.bytes), kh e, d7 b w with
   | some size, some bytes, some z, .gob (.gh t' ks n' g) => bc (pc z && Nat.beq (cj (cellsOf z)) size && Nat.beq size es && Nat.blt 0 es && Nat.ble bytes 1000000 && Nat.beq t' e && j8 n n' && Nat.beq (cj ks) es)
      (tj (.c 0) n A true c (tj (.c 60000) n A false c (ti (.gob (.gh t' ks n g)) (fun k => .gv (.sl k es n A)) w))) (.no c)
   | _, _, _, _ => .no c)
 | _ => .no c) (.no c)
def az7 (t : TypeId) (xt : Option TypeId) (s x : AV) (w : W) (c : Nat) : OR := match s, x with
 | .slice _ _ 0 0 none, .gv (.sl b es n A) => ahp t xt b es n A w c
 | .nilSlice, .gv (.sl b es n A) => ahp t xt b es n A w c
 | _, _ => apo t xt s x w c
def bkn (t : TypeId) (x : AV) (w : W) (c : Nat) : OR := match bq t, x with
 | some .string, .gv (.str g A) => .val (.sym .i64 (kw g) A) w
 | some (.slice _), .gv (.sl _ _ n A) => .val (.sym .i64 n A) w
 | some (.slice _), .gv (.sr _ _ n A) => .val (.sym .i64 n A) w
 | _, _ => .no c
def a5h (x : AV) (w : W) (c : Nat) : OR := match x with
 | .gv (.sl b es n A) => tj (.c 0) n A true c (.val (.gv (.ptr b es (.c 0) 0 A)) w)
 | _ => .no c
def aqa (pt : TypeId) (p n : AV) (w : W) (c : Nat) : OR := match p, n with
 | .gv (.ptr b 1 (.c 0) 0 A), .sym .i64 e _ => (match d7 b w with
   | .gob (.gh t ks n' g) => bc (j8 e n' && a71 ks) (match bq pt, sizeOf t with
     | some (.pointer u), some s => bc (Nat.beq t u && Nat.beq s 1) (tj (.c 0) e A true c (tj (.c 60000) e A false c (.val (.gv (.str g A)) (wset b .none w)))) (.no c)
     | _, _ => .no c) (.no c)
   | _ => .no c)
 | _, _ => .no c
def ac4 (b : Builtin) (ts : List TypeId) (vs : List AV) (w : W) (c : Nat) : OR := match b, ts, vs with
 | .len, t :: _, [x] => bkn t x w c
 | .append, t :: ts, [s, x] => az7 t ts.head? s x w c
 | .unsafeString, [t, _], [p, n] => aqa t p n w c
 | .unsafeSliceData, _, [x] => a5h x w c
 | _, _, _ => .no c
def xOp (o : Op) (τ : F) (w : W) (c : Nat) : OR := match o with
 | .load t a => a1c t (evX a τ) w c
 | .indexAddr t x i => vk t (evX x τ) (evX i τ) w c
 | .index t x i => api t (evX x τ) (evX i τ) w c
 | .binOp op t x y _ => bmd op t x y (evX x τ) (evX y τ) w c
 | .convert s d x => a3i s d (evX x τ) w c
 | .slice t x lo hi mx => arw t (evX x τ) (lo.map fun y => evX y τ) (hi.map fun y => evX y τ) (mx.map fun y => evX y τ) w c
 | .lookup t m k ok => ag2 t (evX m τ) (evX k τ) ok w c
 | .mapUpdate t m k v => axo t (evX m τ) (evX k τ) (evX v τ) w c
 | .range t x => a6g t (evX x τ) w c
 | .next it s => bou (evX it τ) s w c
 | .call ⟨.builtin b, args, ts⟩ => ac4 b ts.toList (abk args.toList τ) w c
 | _ => .no c
def agd (e : SE) : List SA → Option Int
 | [] => none
 | .mk lt a b r :: l => match lt, b, r with
   | false, .c n, true => bc (j8 e a) (some n) (agd e l)
   | _, _, _ => agd e l
def bxq (o : Option Int) (k : IntKind) (e : SE) (A : List SA) : AV := match o with
 | some n => .int k n
 | none => .sym k e A
def arx : AV → AV
 | .sym k e A => bxq (agd e A) k e A
 | v => v
def pg : OR → OR
 | .val v w => .val (arx v) w
 | r => r
def gOp (o : Op) (τ : F) (w : W) : OR := OR.rec (motive := fun _ => Op → F → W → OR) (fun v w' _ _ _ => .val (arx v) w') (fun f vs w' _ _ _ => .call f vs w') (fun b vs w' _ _ _ => .yld b vs w')
 (fun v w' _ _ _ => .pan v w') (fun d w' _ _ _ => .dfr d w') (fun w' _ _ _ => .rcv w') (fun c o τ w => pg (xOp o τ w c)) (fOp o τ w) o τ w
def zOp (o : Op) (τ : F) (w : W) : OR := pg (match ajk o τ w with
 | .no c => xOp o τ w c
 | r => r)
def gD (o : Op) (τ : F) (w : W) : OR := OR.rec (motive := fun _ => Op → F → W → OR) (fun v w' _ _ _ => .val (arx v) w') (fun f vs w' _ _ _ => .call f vs w') (fun b vs w' _ _ _ => .yld b vs w')
 (fun v w' _ _ _ => .pan v w') (fun d w' _ _ _ => .dfr d w') (fun w' _ _ _ => .rcv w') (fun _ o τ w => zOp o τ w) (fOp o τ w) o τ w
end
end Go.Ev
