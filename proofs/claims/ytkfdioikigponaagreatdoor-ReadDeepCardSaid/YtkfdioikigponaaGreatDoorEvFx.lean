import Derived.Test.YtkfdioikigponaaGreatDoorEvF
set_option linter.all false
namespace Go.Ev
noncomputable section
/- Operations on what is known in part: tried where the others stop. -/
/-- the decided comparisons that a value carries -/
def aOf : AV → List SA
  | .sym _ _ A => A
  | .gv (.str _ A) => A
  | .gv (.sl _ _ _ A) => A
  | .gv (.ptr _ _ _ _ A) => A
  | .gv (.sr _ _ _ A) => A
  | .gv (.pr _ _ _ A) => A
  | _ => []
def orA (A B : List SA) : List SA := match A with
  | [] => B
  | a :: l => a :: l
def seOf : AV → Option SE
  | .int _ n => some (.c n)
  | .sym _ e _ => some e
  | _ => none
def knd : AV → Option IntKind
  | .int k _ => some k
  | .sym k _ _ => some k
  | _ => none
/- sums and lengths, in a normal form -/
def seAdd : SE → SE → SE
  | .c m, .c n => .c (Int.add m n)
  | .bin 6 k a (.c m), .c n => .bin 6 k a (.c (Int.add m n))
  | .c 0, b => b
  | a, .c 0 => a
  | a, b => .bin 6 .i64 a b
def seLen : GE → SE
  | .nil => .c 0
  | .one _ => .c 1
  | .cat a b => seAdd (seLen a) (seLen b)
  | .lit l _ => .c (.ofNat l)
  | g => .len g
def geCat : GE → GE → GE
  | .nil, b => b
  | a, .nil => a
  | .lit l n, .lit l' n' => bc (Nat.blt n' (Nat.pow 256 l')) (.lit (l + l') (n * Nat.pow 256 l' + n')) (.cat (.lit l n) (.lit l' n'))
  | .cat a (.lit l n), .lit l' n' => bc (Nat.blt n' (Nat.pow 256 l')) (.cat a (.lit (l + l') (n * Nat.pow 256 l' + n'))) (.cat (.cat a (.lit l n)) (.lit l' n'))
  | a, b => .cat a b
def isSome1 (o : Option Bool) (b : Bool) : Bool := match o with
  | some c => sameB c b
  | none => false
/-- it is decided that it is so -/
def dLt (a b : SE) (A : List SA) (r : Bool) : Bool := isSome1 (seCmp true a b A) r
/-- the cell of an element -/
def cellE (es off : Nat) (i : SE) : SE := bc (Nat.beq es 1) (bc (Nat.beq off 0) i (seAdd i (.c (.ofNat off)))) (seAdd (.bin 7 .i64 (.c (.ofNat es)) i) (.c (.ofNat off)))
def rdAt (g : GE) (e : SE) : SE := .rd g e
def missLt (a b : SE) : Nat := missC (fun x => tokA x 1) (seEnc a) (seEnc b)
def missEq (a b : SE) : Nat := missC (fun x => tokA x 0) (seEnc a) (seEnc b)
/-- go on if it is decided, or tell what is missing -/
def ifLt (a b : SE) (A : List SA) (r : Bool) (c : Nat) (k : OR) : OR := match seCmp true a b A with
  | some x => bc (sameB x r) k (.no c)
  | none => .no (missLt a b)
def strG : AV → Option GE
  | .str l n => some (.lit l n)
  | .gv (.str g _) => some g
  | _ => none
/- memory -/
def cellsAt (ks : List IntKind) (g : GE) (es : Nat) (i : SE) (A : List SA) : Nat → Nat → Option (List AV)
  | 0, _ => some []
  | n + 1, off => match nth ks off with
    | some k => (cellsAt ks g es i A n (off + 1)).map (.sym k (rdAt g (cellE es off i)) A :: ·)
    | none => none
def xLoad (t : TypeId) (p : AV) (w : W) (c : Nat) : OR := match p with
  | .gv (.ptr b es i off A) => (match wget b w with
    | .gob (.gh _ ks n g) => bc (Nat.beq (llen ks) es) (ifLt i n A true c (match aggOf t with
      | some none => (match cellsAt ks g es i A 1 off with
        | some [v] => .val v w
        | _ => .no c)
      | some (some m) => (match cellsAt ks g es i A m off with
        | some l => .val (.agg l) w
        | none => .no c)
      | none => .no c)) (.no c)
    | _ => .no c)
  | .gv (.pr b o i A) => (match wget b w with
    | .gob (.rh o' n g) => bc (seEq o o') (ifLt i n A true c (match aggOf t with
      | some none => .val (.sym .i64 (rdAt g i) A) w
      | _ => .no c)) (.no c)
    | _ => .no c)
  | _ => .no c
def xIndexAddr (t : TypeId) (x i : AV) (w : W) (c : Nat) : OR := match x, seOf i, undOf t with
  | .gv (.sl b es n A), some e, some (.slice el) => bc (Nat.blt 0 es) (match sizeOf el with
    | some s => bc (Nat.beq s es) (ifLt e (.c 0) (orA A (aOf i)) false c (ifLt e n (orA A (aOf i)) true c (.val (.gv (.ptr b es e 0 (orA A (aOf i)))) w))) (.no c)
    | none => .no c) (.no c)
  | .gv (.sr b o n A), some e, some (.slice el) => (match sizeOf el with
    | some 1 => ifLt e (.c 0) (orA A (aOf i)) false c (ifLt e n (orA A (aOf i)) true c (.val (.gv (.pr b o e (orA A (aOf i)))) w))
    | _ => .no c)
  | _, _, _ => .no c
def xIndex (t : TypeId) (x i : AV) (w : W) (c : Nat) : OR := match strG x, seOf i, undOf t with
  | some g, some e, some .string => ifLt e (.c 0) (orA (aOf x) (aOf i)) false c (ifLt e (seLen g) (orA (aOf x) (aOf i)) true c (.val (.sym .u8 (rdAt g e) (orA (aOf x) (aOf i))) w))
  | _, _, _ => .no c
/- strings -/
def xStrBin (op : BinOp) (g h : GE) (A : List SA) (w : W) (c : Nat) : OR := match op with
  | .add => ifLt (.c 9223372036854775807) (seLen (geCat g h)) A false c (.val (.gv (.str (geCat g h) A)) w)
  | .eql => (match seCmp false (.eqg g h) (.c 1) A with
    | some r => .val (.bool r) w
    | none => .no (missEq (.eqg g h) (.c 1)))
  | .neq => (match seCmp false (.eqg g h) (.c 1) A with
    | some r => .val (.bool (!r)) w
    | none => .no (missEq (.eqg g h) (.c 1)))
  | _ => .no c
/- integers: bits -/
def xBits (op : BinOp) (k : IntKind) (a b : SE) (A : List SA) (w : W) (c : Nat) : OR := match op with
  | .and => .val (.sym k (.bin 8 k a b) A) w
  | .or => .val (.sym k (.bin 9 k a b) A) w
  | .xor => .val (.sym k (.bin 10 k a b) A) w
  | _ => .no c
def xShift (op : BinOp) (k : IntKind) (a b : SE) (A : List SA) (w : W) (c : Nat) : OR := match op with
  | .shl => ifLt b (.c 0) A false c (.val (.sym k (.bin 11 k a b) A) w)
  | .shr => ifLt b (.c 0) A false c (.val (.sym k (.bin 12 k a b) A) w)
  | _ => .no c
def isSh : BinOp → Bool
  | .shl | .shr => true
  | _ => false
/- equality of structs -/
def xEqIn (w : W) (A : List SA) : Nat → TypeId → AV → AV → Option Bool
  | 0, _, _, _ => none
  | d + 1, t, x, y => match undOf t with
    | some (.int _) => (match seOf x, seOf y, knd x, knd y with
      | some a, some b, some k, some k' => bc (kbeq k k') (seCmp false a b A) none
      | _, _, _, _ => none)
    | some .string => (match strG x, strG y with
      | some g, some h => seCmp false (.eqg g h) (.c 1) A
      | _, _ => none)
    | some (.struct fs) => (match x, y with
      | .agg xs, .agg ys => bc (PP.stoodInHeld t) none (eqFields (xEqIn w A d) xs ys fs.toList)
      | _, _ => none)
    | _ => eqIn w 8 t x y
def agA : AV → List SA
  | .agg l => firstAs l
  | v => aOf v
where firstAs : List AV → List SA
  | [] => []
  | v :: l => orA (aOf v) (firstAs l)
/-- which comparison of fields is missing -/
def xEqMiss (A : List SA) : List AV → List AV → Nat
  | x :: l, y :: m => (match seOf x, seOf y with
    | some a, some b => (match seCmp false a b A with
      | some true => xEqMiss A l m
      | some false => 0
      | none => missEq a b)
    | _, _ => xEqMiss A l m)
  | _, _ => 0
def xEqAgg (r : Bool) (t : TypeId) (a b : AV) (w : W) (c : Nat) : OR := match xEqIn w (orA (agA a) (agA b)) 3 t a b with
  | some q => .val (.bool (bc r q (!q))) w
  | none => (match a, b with
    | .agg xs, .agg ys => (match xEqMiss (orA (agA a) (agA b)) xs ys with
      | 0 => .no c
      | m => .no m)
    | _, _ => .no c)
def isAg : AV → Bool
  | .agg _ => true
  | _ => false
def xBin (op : BinOp) (t : TypeId) (x y : Operand) (a b : AV) (w : W) (c : Nat) : OR :=
  match strG a, strG b with
  | some g, some h => xStrBin op g h (orA (aOf a) (aOf b)) w c
  | _, _ => match seOf a, seOf b, knd a, knd b with
    | some e, some f, some k, some k' => bc (isSh op) (xShift op k e f (orA (aOf a) (aOf b)) w c) (bc (kbeq k k') (xBits op k e f (orA (aOf a) (aOf b)) w c) (.no c))
    | _, _, _, _ => bc (isAg a && isAg b && guardOk t x y a b) (match op with
      | .eql => xEqAgg true t a b w c
      | .neq => xEqAgg false t a b w c
      | _ => .no c) (.no c)
def xConv (src dst : TypeId) (x : AV) (w : W) (c : Nat) : OR := match undOf src, undOf dst, x with
  | some _, some (.int k), .sym _ e A => .val (.sym k (.bin 0 k e (.c 0)) A) w
  | some _, some .string, .sym _ e A => .val (.gv (.str (.enc e) A)) w
  | some _, some .string, .gv (.str g A) => .val (.gv (.str g A)) w
  | _, _, _ => .no c
def bndE (o : Option AV) (d : SE) : Option SE := match o with
  | none => some d
  | some v => seOf v
def aOfO (o : Option AV) : List SA := match o with
  | none => []
  | some v => aOf v
def xSlice (t : TypeId) (x : AV) (lo hi mx : Option AV) (w : W) (c : Nat) : OR := match undOf t, strG x, mx, bndE lo (.c 0) with
  | some .string, some g, none, some l => (match bndE hi (seLen g) with
    | some h => (fun A => ifLt l (.c 0) A false c (ifLt h l A false c (ifLt (seLen g) h A false c (.val (.gv (.str (.cut g l h) A)) w)))) (orA (aOf x) (orA (aOfO lo) (aOfO hi)))
    | none => .no c)
  | _, _, _, _ => .no c
/- maps -/
def findE (e : SE) (k : IntKind) (A : List SA) : List (AV × AV) → Nat ⊕ Option AV
  | [] => .inr none
  | p :: es => match p.1 with
    | .int k' n => bc (kbeq k k') (match seCmp false e (.c n) A with
      | some true => .inr (some p.2)
      | some false => findE e k A es
      | none => .inl (missEq e (.c n))) (.inl 0)
    | _ => .inl 0
def isIntKey (t : TypeId) (k : IntKind) : Bool := match keyDesc t with
  | some (.int k') => kbeq k k'
  | _ => false
def isStrKey (t : TypeId) : Bool := match keyDesc t with
  | some .string => true
  | _ => false
def lookE (ok : Bool) (z : AV) (w : W) (c : Nat) : Nat ⊕ Option AV → OR
  | .inr (some v) => lookR ok v true w
  | .inr none => lookR ok z false w
  | .inl 0 => .no c
  | .inl m => .no m
def xLookup (t : TypeId) (m k : AV) (ok : Bool) (w : W) (c : Nat) : OR := match m, elemZero t with
  | .map b, some z => (match wget b w with
    | .map es => (match k with
      | .sym kd e A => bc (plainKey t && isIntKey t kd) (lookE ok z w c (findE e kd A es)) (.no c)
      | _ => .no c)
    | .gob (.gmap mg) => (match strG k, z with
      | some g, .int .i64 0 => bc (plainKey t && isStrKey t) (match seCmp false (.mhas mg g) (.c 1) (aOf k) with
        | some true => lookR ok (.sym .i64 (.mget mg g) (aOf k)) true w
        | some false => lookR ok z false w
        | none => .no (missEq (.mhas mg g) (.c 1))) (.no c)
      | _, _ => .no c)
    | _ => .no c)
  | _, _ => .no c
def xUpdate (t : TypeId) (m k v : AV) (w : W) (c : Nat) : OR := match m with
  | .map b => (match wget b w with
    | .gob (.gmap mg) => (match strG k, seOf v, knd v with
      | some g, some e, some .i64 => bc (plainKey t && isStrKey t) (match seCmp false (.mhas mg g) (.c 1) (orA (aOf k) (aOf v)) with
        | some false => .val undefA (wset b (.gob (.gmap (geCat (.one e) (geCat (.one (seLen g)) (geCat g mg))))) w)
        | some true => .no c
        | none => .no (missEq (.mhas mg g) (.c 1))) (.no c)
      | _, _, _ => .no c)
    | _ => .no c)
  | _ => .no c
/- loops over strings -/
def xRange (t : TypeId) (x : AV) (w : W) (c : Nat) : OR := match undOf t, x with
  | some .string, .gv (.str g A) => wnew (.gob (.iter g (.c 0) A)) ptr0 w
  | _, _ => .no c
def xNext (it : AV) (isString : Bool) (w : W) (c : Nat) : OR := match it, isString with
  | .ptr b 0, true => (match wget b w with
    | .gob (.iter g pos A) => (match seCmp true pos (seLen g) A with
      | some true => .val (.tuple [.bool true, .sym .i64 pos A, .sym .i32 (.dr g pos) A]) (wset b (.gob (.iter g (seAdd pos (.dw g pos)) A)) w)
      | some false => .val (.tuple [.bool false]) w
      | none => .no (missLt pos (seLen g)))
    | _ => .no c)
  | _, _ => .no c
/- appends -/
def kindsOk (ks : List IntKind) : Nat → List AV → Bool
  | _, [] => true
  | i, v :: l => (match nth ks (i % llen ks), knd v with
    | some k, some k' => bc (kbeq k k') (kindsOk ks (i + 1) l) false
    | _, _ => false)
def inU8 : Int → Bool
  | .ofNat n => Nat.ble n 255
  | _ => false
/-- surely a byte -/
def u8E (A : List SA) : SE → Bool
  | .c n => inU8 n
  | .bin 0 .u8 _ _ => true
  | .bin 1 .u8 _ _ => true
  | e => dLt e (.c 0) A false && dLt e (.c 256) A true
def isU8 (ks : List IntKind) : Bool := match ks with
  | [.u8] => true
  | _ => false
def u8All (A : List SA) : List AV → Bool
  | [] => true
  | v :: l => (match seOf v with
    | some e => bc (u8E A e) (u8All A l) false
    | none => false)
def rowOf : List AV → GE
  | [] => .nil
  | v :: l => (match seOf v with
    | some e => geCat (.one e) (rowOf l)
    | none => .nil)
def asFirst (l : List AV) : List SA := agA.firstAs l
def xAppendG (el : TypeId) (b : K) (es : Nat) (n : SE) (A : List SA) (new : List AV) (m : Nat) (w : W) (c : Nat) : OR := match wget b w with
  | .gob (.gh t ks n' g) => bc (Nat.beq t el && seEq n n' && Nat.beq (llen ks) es && kindsOk ks 0 new && (!isU8 ks || u8All A new))
      (wnew (.gob (.gh t ks (seAdd n (.c (.ofNat m))) (geCat g (rowOf new)))) (fun k => .gv (.sl k es (seAdd n (.c (.ofNat m))) A)) (wset b .none w)) (.no c)
  | .gob (.junk t) => bc (Nat.beq t el && allOne new) (wnew (.gob (.junk t)) (fun k => .gv (.sl k es (seAdd n (.c (.ofNat m))) A)) (wset b .none w)) (.no c)
  | _ => .no c
def xAppendS (el : TypeId) (b : K) (n : SE) (A : List SA) (h : GE) (w : W) (c : Nat) : OR := match wget b w with
  | .gob (.gh t ks n' g) => bc (Nat.beq t el && seEq n n' && isU8 ks)
      (wnew (.gob (.gh t ks (seAdd n (seLen h)) (geCat g h))) (fun k => .gv (.sl k 1 (seAdd n (seLen h)) A)) (wset b .none w)) (.no c)
  | _ => .no c
def xAppend (t : TypeId) (xt : Option TypeId) (s x : AV) (w : W) (c : Nat) : OR :=
  bc (xtOk xt) (match undOf t, s with
  | some (.slice e), .gv (.sl b es n A) => (match sizeOf e, (infoOf e).map (·.bytes), zeroOf e with
    | some size, some bytes, some z => bc (notTop z && Nat.beq (llen (cellsOf z)) size && Nat.beq size es && Nat.blt 0 es && Nat.ble bytes 1000000)
      (match strG x with
        | some h => bc (Nat.beq es 1) (ifLt (.c 60000) (seAdd n (seLen h)) (orA A (aOf x)) false c (xAppendS e b n (orA A (aOf x)) h w c)) (.no c)
        | none => (match srcCells size x w with
          | some (m, new) => ifLt (.c 60000) (seAdd n (.c (.ofNat m))) (orA A (asFirst new)) false c (xAppendG e b es n (orA A (asFirst new)) new m w c)
          | none => .no c)) (.no c)
    | _, _, _ => .no c)
  | _, _ => .no c) (.no c)
def xLen (t : TypeId) (x : AV) (w : W) (c : Nat) : OR := match undOf t, x with
  | some .string, .gv (.str g A) => .val (.sym .i64 (seLen g) A) w
  | some (.slice _), .gv (.sl _ _ n A) => .val (.sym .i64 n A) w
  | some (.slice _), .gv (.sr _ _ n A) => .val (.sym .i64 n A) w
  | _, _ => .no c
def xSData (x : AV) (w : W) (c : Nat) : OR := match x with
  | .gv (.sl b es n A) => ifLt (.c 0) n A true c (.val (.gv (.ptr b es (.c 0) 0 A)) w)
  | _ => .no c
def xUString (pt : TypeId) (p n : AV) (w : W) (c : Nat) : OR := match p, n with
  | .gv (.ptr b 1 (.c 0) 0 A), .sym .i64 e _ => (match wget b w with
    | .gob (.gh t ks n' g) => bc (seEq e n' && isU8 ks) (match undOf pt, sizeOf t with
      | some (.pointer u), some s => bc (Nat.beq t u && Nat.beq s 1) (ifLt (.c 0) e A true c (ifLt (.c 60000) e A false c (.val (.gv (.str g A)) (wset b .none w)))) (.no c)
      | _, _ => .no c) (.no c)
    | _ => .no c)
  | _, _ => .no c
def xBuiltin (b : Builtin) (ts : List TypeId) (vs : List AV) (w : W) (c : Nat) : OR := match b, ts, vs with
  | .len, t :: _, [x] => xLen t x w c
  | .append, t :: ts, [s, x] => xAppend t ts.head? s x w c
  | .unsafeString, [t, _], [p, n] => xUString t p n w c
  | .unsafeSliceData, _, [x] => xSData x w c
  | _, _, _ => .no c
def xOp (o : Op) (τ : F) (w : W) (c : Nat) : OR := match o with
  | .load t a => xLoad t (evX a τ) w c
  | .indexAddr t x i => xIndexAddr t (evX x τ) (evX i τ) w c
  | .index t x i => xIndex t (evX x τ) (evX i τ) w c
  | .binOp op t x y _ => xBin op t x y (evX x τ) (evX y τ) w c
  | .convert s d x => xConv s d (evX x τ) w c
  | .slice t x lo hi mx => xSlice t (evX x τ) (lo.map fun y => evX y τ) (hi.map fun y => evX y τ) (mx.map fun y => evX y τ) w c
  | .lookup t m k ok => xLookup t (evX m τ) (evX k τ) ok w c
  | .mapUpdate t m k v => xUpdate t (evX m τ) (evX k τ) (evX v τ) w c
  | .range t x => xRange t (evX x τ) w c
  | .next it s => xNext (evX it τ) s w c
  | .call ⟨.builtin b, args, ts⟩ => xBuiltin b ts.toList (evXs args.toList τ) w c
  | _ => .no c
/- what is decided to be a number is that number -/
def knownE (e : SE) : List SA → Option Int
  | [] => none
  | .mk lt a b r :: l => match lt, b, r with
    | false, .c n, true => bc (seEq e a) (some n) (knownE e l)
    | _, _, _ => knownE e l
def normS (o : Option Int) (k : IntKind) (e : SE) (A : List SA) : AV := match o with
  | some n => .int k n
  | none => .sym k e A
def normV : AV → AV
  | .sym k e A => normS (knownE e A) k e A
  | v => v
def normO : OR → OR
  | .val v w => .val (normV v) w
  | r => r
/-- one operation: as it was, and where that stops, on what is known in part -/
def gOp (o : Op) (τ : F) (w : W) : OR := OR.rec (motive := fun _ => Op → F → W → OR) (fun v w' _ _ _ => .val (normV v) w') (fun f vs w' _ _ _ => .call f vs w') (fun b vs w' _ _ _ => .yld b vs w')
  (fun v w' _ _ _ => .pan v w') (fun d w' _ _ _ => .dfr d w') (fun w' _ _ _ => .rcv w') (fun c o τ w => normO (xOp o τ w c)) (fOp o τ w) o τ w
/-- the same, for regions whose order is drawn -/
def zOp (o : Op) (τ : F) (w : W) : OR := normO (match evOp o τ w with
  | .no c => xOp o τ w c
  | r => r)
def gD (o : Op) (τ : F) (w : W) : OR := OR.rec (motive := fun _ => Op → F → W → OR) (fun v w' _ _ _ => .val (normV v) w') (fun f vs w' _ _ _ => .call f vs w') (fun b vs w' _ _ _ => .yld b vs w')
  (fun v w' _ _ _ => .pan v w') (fun d w' _ _ _ => .dfr d w') (fun w' _ _ _ => .rcv w') (fun _ o τ w => zOp o τ w) (fOp o τ w) o τ w
end
end Go.Ev
