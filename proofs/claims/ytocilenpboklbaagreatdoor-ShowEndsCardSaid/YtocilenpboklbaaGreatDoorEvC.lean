import Derived.Test.YtocilenpboklbaaGreatDoorEvFx
set_option linter.all false
namespace Go.Ev
noncomputable section
inductive PE where
 | mk (v : AV) (rec : Bool)
inductive UM where
 | none
 | ret
 | pan (ch : List PE)
inductive FSt where
 | mk (τ : F) (ds : List AD) (um : UM) (w : W)
inductive Ctx where
 | mk (fn nt : Nat) (dfr : Bool) (round : Option K)
def Ctx.nt (C : Ctx) : Nat := Ctx.rec (motive := fun _ => Nat) (fun _ nt _ _ => nt) C
def Ctx.fn (C : Ctx) : Nat := Ctx.rec (motive := fun _ => Nat) (fun fn _ _ _ => fn) C
def Ctx.dfr (C : Ctx) : Bool := Ctx.rec (motive := fun _ => Bool) (fun _ _ d _ => d) C
def Ctx.round (C : Ctx) : Option K := Ctx.rec (motive := fun _ => Option K) (fun _ _ _ r => r) C
inductive R where
 | n (S : FSt)
 | x (id : Nat) (S : FSt)
 | r (S : FSt)
 | p (ch : List PE) (S : FSt)
 | no (c f : Nat)
inductive CR where
 | ret (v : AV) (w : W)
 | pan (ch : List PE) (w : W)
 | no (c f : Nat)
structure Ih where
 hook : FuncId → List AV → W → Option CR
 run : Code → Ctx → FSt → R
 lp : Ctx → Code → FSt → Option R
instance : CoeFun Ih (fun _ => Code → Ctx → FSt → R) := ⟨Ih.run⟩
abbrev Oh := Ih → List Oper → Ctx → FSt → R
def an5 (τ : F) (w : W) : ResultVar → Option AV
 | .tmp t => some (jj t τ)
 | .cell a t => match jj a τ with
   | .ptr b o => (match vn t (.ptr b o) w with
     | .val v _ => some v
     | _ => none)
   | _ => none
def ajk (τ : F) (w : W) : List ResultVar → Option (List AV)
 | [] => some []
 | r :: rs => (an5 τ w r).bind fun v => (ajk τ w rs).map (v :: ·)
def bb1 : List AV → AV
 | [v] => v
 | vs => .tuple vs
def results (fn : Func) (τ : F) (w : W) : CR := match ajk τ w fn.results.toList with
 | some vs => .ret (bb1 vs) w
 | none => .no 200 0
def settle : UM → UM
 | .pan (.mk _ true :: _) => .ret
 | u => u
def raised (u : UM) (ch : List PE) : UM := match u with
 | .pan old => .pan (ch ++ old)
 | _ => .pan ch
inductive DR where
 | ret (u : UM) (w : W)
 | pan (ch : List PE) (u : UM) (w : W)
 | no (c f : Nat)
def vf (f : FuncId) : Option (Func × Code) := match ako f with
 | some fn => match fn.body with
   | some c => bc (Nat.ble fn.ntmps 512) (some (fn, c)) none
   | none => none
 | none => none
def ajs (ih : Ih) (fn : Func) (c : Code) (f : FuncId) (vs : List AV) (dfr : Bool) (u : UM) (w : W) : R :=
 bc (Nat.ble (cx vs) fn.ntmps) (ih c (.mk f fn.ntmps dfr none) (.mk (j8 vs 0 jv) [] u w)) (.no 201 f)
def adt (fn : Func) (r : R) : DR := match r with
 | .n (.mk τ [] u w) | .r (.mk τ [] u w) => (match results fn τ w with | .ret _ _ => .ret u w | _ => .no 202 0)
 | .p ch (.mk _ [] u w) => .pan ch u w
 | .no c f => .no c f
 | _ => .no 203 0
def aho (ih : Ih) (f : FuncId) (vs : List AV) (u : UM) (w : W) : DR := match vf f with
 | some (fn, c) => adt fn (ajs ih fn c f vs true u w)
 | none => .no 204 f
def pn (ih : Ih) (fn : Func) (τ : F) : List AD → UM → W → CR
 | [], .ret, w => results fn τ w
 | [], .pan ch, w => .pan ch w
 | [], .none, _ => .no 205 0
 | .call (.func f) cap args :: ds, u, w => (match vj f (args ++ cap) w with
   | .call f vs w => (match aho ih f vs u w with
     | .ret u' w' => pn ih fn τ ds (settle u') w'
     | .pan ch u' w' => pn ih fn τ ds (raised u' ch) w'
     | .no c f => .no c f)
   | _ => .no 206 0)
 | .coll b :: ds, u, w => (match eo b w with
   | .deferred (some []) => pn ih fn τ ds u (wset b (.deferred none) w)
   | _ => .no 206 1)
 | _ :: _, _, _ => .no 207 0
def a3z (ih : Ih) (fn : Func) (r : R) : CR := match r with
 | .n (.mk τ ds _ w) | .r (.mk τ ds _ w) => pn ih fn τ ds .ret w
 | .p ch (.mk τ ds _ w) => pn ih fn τ ds (.pan ch) w
 | .no c f => .no c f
 | _ => .no 208 0
def a21 (ih : Ih) (f : FuncId) (vs : List AV) (w : W) (b : Func × Code) : CR := a3z ih b.1 (ajs ih b.1 b.2 f vs false .none w)
def amv (ih : Ih) (f : FuncId) (vs : List AV) (w : W) : CR := match vf f with
 | some b => a21 ih f vs w b
 | none => .no 209 f
def free : AV → Bool
 | .bool _ => true
 | .int _ _ => true
 | .str _ _ => true
 | .nilPtr => true
 | .nilSlice => true
 | .nilMap => true
 | .nilIface => true
 | .nilFunc => true
 | _ => false
def aqs : List AV → Bool
 | [] => true
 | v :: l => bc (free v) (aqs l) false
def pl : List SA → List SA → Bool
 | [], [] => true
 | .mk lt a b r :: l, .mk lt' a' b' r' :: m => bc (aab lt lt') (bc (ij a a') (bc (ij b b') (bc (aab r r') (pl l m) false) false) false) false
 | _, _ => false
def anw : List (Nat × Nat) → List (Nat × Nat) → Bool
 | [], [] => true
 | p :: l, q :: m => bc (Nat.beq p.1 q.1) (bc (Nat.beq p.2 q.2) (anw l m) false) false
 | _, _ => false
def at3 : GV → GV → Bool
 | .str g A, .str g' A' => bc (nj g g') (pl A A') false
 | .sl b es n A, .sl b' es' n' A' => bc (K.beq b b') (bc (Nat.beq es es') (bc (ij n n') (pl A A') false) false) false
 | .ptr b es i o A, .ptr b' es' i' o' A' => bc (K.beq b b') (bc (Nat.beq es es') (bc (ij i i') (bc (Nat.beq o o') (pl A A') false) false) false) false
 | .sr b o n A, .sr b' o' n' A' => bc (K.beq b b') (bc (ij o o') (bc (ij n n') (pl A A') false) false) false
 | .pr b o i A, .pr b' o' i' A' => bc (K.beq b b') (bc (ij o o') (bc (ij i i') (pl A A') false) false) false
 | _, _ => false
def axh : AV → AV → Bool
 | .bool a, .bool b => (match a, b with | true, true => true | false, false => true | _, _ => false)
 | .int k m, .int l n => bc (ra k l) (adp m n) false
 | .str l n, .str l' n' => sEq l n l' n'
 | .nilPtr, .nilPtr => true
 | .ptr b o, .ptr b' o' => bc (K.beq b b') (Nat.beq o o') false
 | .nilSlice, .nilSlice => true
 | .slice b o len cap none, .slice b' o' len' cap' none => bc (K.beq b b') (bc (Nat.beq o o') (bc (Nat.beq len len') (Nat.beq cap cap') false) false) false
 | .slice b o len cap (some e), .slice b' o' len' cap' (some e') => bc (K.beq b b') (bc (Nat.beq o o') (bc (Nat.beq len len') (bc (Nat.beq cap cap') (Nat.beq e e') false) false) false) false
 | .nilMap, .nilMap => true
 | .map b, .map b' => K.beq b b'
 | .nilFunc, .nilFunc => true
 | .nilIface, .nilIface => true
 | .wse b, .wse b' => K.beq b b'
 | .sym k e A, .sym k' e' A' => bc (ra k k') (bc (ij e e') (pl A A') false) false
 | .sx c e A, .sx c' e' A' => bc (Nat.beq c c') (bc (ij e e') (anw A A') false) false
 | .gv x, .gv y => at3 x y
 | .wsl b k d n, .wsl b' k' d' n' => bc (K.beq b b') (bc (K.beq k k') (bc (Nat.beq d d') (Nat.beq n n') false) false) false
 | .wptr b k i, .wptr b' k' i' => bc (K.beq b b') (bc (K.beq k k') (Nat.beq i i') false) false
 | .esl, .esl => true
 | .top, .top => true
 | _, _ => false
def aar (f : AV → AV → Bool) : List AV → List AV → Bool
 | [], [] => true
 | a :: l, b :: m => bc (f a b) (aar f l m) false
 | _, _ => false
def a28 : Fn → Fn → Bool
 | .func f, .func g => Nat.beq f g
 | .yield f, .yield g => Nat.beq f g
 | _, _ => false
def akg : Nat → AV → AV → Bool
 | 0, _, _ => false
 | n + 1, a, b => match a, b with
   | .agg l, .agg m => aar (akg n) l m
   | .tuple l, .tuple m => aar (akg n) l m
   | .iface t x, .iface t' y => bc (Nat.beq t t') (akg n x y) false
   | .func f x y, .func g x' y' => bc (a28 f g) (bc (aar (akg n) x x') (aar (akg n) y y') false) false
   | a, b => axh a b
def a93 (a b : AV) : Bool := akg 8 a b
inductive LE where
 | mk (g : Nat) (cells : List AV)
abbrev ctA : List AV := [.int .u8 128, .int .u8 191, .int .u8 160, .int .u8 191, .int .u8 128, .int .u8 159, .int .u8 144, .int .u8 191, .int .u8 128, .int .u8 143, .int .u8 0, .int .u8 0, .int .u8 0, .int .u8 0, .int .u8 0, .int .u8 0, .int .u8 0, .int .u8 0, .int .u8 0, .int .u8 0, .int .u8 0, .int .u8 0, .int .u8 0, .int .u8 0, .int .u8 0, .int .u8 0, .int .u8 0, .int .u8 0, .int .u8 0, .int .u8 0, .int .u8 0, .int .u8 0]
abbrev ctB : List AV := [.int .u8 240, .int .u8 240, .int .u8 240, .int .u8 240, .int .u8 240, .int .u8 240, .int .u8 240, .int .u8 240, .int .u8 240, .int .u8 240, .int .u8 240, .int .u8 240, .int .u8 240, .int .u8 240, .int .u8 240, .int .u8 240, .int .u8 240, .int .u8 240, .int .u8 240, .int .u8 240, .int .u8 240, .int .u8 240, .int .u8 240, .int .u8 240, .int .u8 240, .int .u8 240, .int .u8 240, .int .u8 240, .int .u8 240, .int .u8 240, .int .u8 240, .int .u8 240, .int .u8 240, .int .u8 240, .int .u8 240, .int .u8 240, .int .u8 240, .int .u8 240, .int .u8 240, .int .u8 240, .int .u8 240, .int .u8 240, .int .u8 240, .int .u8 240, .int .u8 240, .int .u8 240, .int .u8 240, .int .u8 240, .int .u8 240, .int .u8 240, .int .u8 240, .int .u8 240, .int .u8 240, .int .u8 240, .int .u8 240, .int .u8 240, .int .u8 240, .int .u8 240, .int .u8 240, .int .u8 240, .int .u8 240, .int .u8 240, .int .u8 240, .int .u8 240, .int .u8 240, .int .u8 240, .int .u8 240, .int .u8 240, .int .u8 240, .int .u8 240, .int .u8 240, .int .u8 240, .int .u8 240, .int .u8 240, .int .u8 240, .int .u8 240, .int .u8 240, .int .u8 240, .int .u8 240, .int .u8 240, .int .u8 240, .int .u8 240, .int .u8 240, .int .u8 240, .int .u8 240, .int .u8 240, .int .u8 240, .int .u8 240, .int .u8 240, .int .u8 240, .int .u8 240, .int .u8 240, .int .u8 240, .int .u8 240, .int .u8 240, .int .u8 240, .int .u8 240, .int .u8 240, .int .u8 240, .int .u8 240, .int .u8 240, .int .u8 240, .int .u8 240, .int .u8 240, .int .u8 240, .int .u8 240, .int .u8 240, .int .u8 240, .int .u8 240, .int .u8 240, .int .u8 240, .int .u8 240, .int .u8 240, .int .u8 240, .int .u8 240, .int .u8 240, .int .u8 240, .int .u8 240, .int .u8 240, .int .u8 240, .int .u8 240, .int .u8 240, .int .u8 240, .int .u8 240, .int .u8 240, .int .u8 240, .int .u8 240, .int .u8 240, .int .u8 241, .int .u8 241, .int .u8 241, .int .u8 241, .int .u8 241, .int .u8 241, .int .u8 241, .int .u8 241, .int .u8 241, .int .u8 241, .int .u8 241, .int .u8 241, .int .u8 241, .int .u8 241, .int .u8 241, .int .u8 241, .int .u8 241, .int .u8 241, .int .u8 241, .int .u8 241, .int .u8 241, .int .u8 241, .int .u8 241, .int .u8 241, .int .u8 241, .int .u8 241, .int .u8 241, .int .u8 241, .int .u8 241, .int .u8 241, .int .u8 241, .int .u8 241, .int .u8 241, .int .u8 241, .int .u8 241, .int .u8 241, .int .u8 241, .int .u8 241, .int .u8 241, .int .u8 241, .int .u8 241, .int .u8 241, .int .u8 241, .int .u8 241, .int .u8 241, .int .u8 241, .int .u8 241, .int .u8 241, .int .u8 241, .int .u8 241, .int .u8 241, .int .u8 241, .int .u8 241, .int .u8 241, .int .u8 241, .int .u8 241, .int .u8 241, .int .u8 241, .int .u8 241, .int .u8 241, .int .u8 241, .int .u8 241, .int .u8 241, .int .u8 241, .int .u8 241, .int .u8 241, .int .u8 2, .int .u8 2, .int .u8 2, .int .u8 2, .int .u8 2, .int .u8 2, .int .u8 2, .int .u8 2, .int .u8 2, .int .u8 2, .int .u8 2, .int .u8 2, .int .u8 2, .int .u8 2, .int .u8 2, .int .u8 2, .int .u8 2, .int .u8 2, .int .u8 2, .int .u8 2, .int .u8 2, .int .u8 2, .int .u8 2, .int .u8 2, .int .u8 2, .int .u8 2, .int .u8 2, .int .u8 2, .int .u8 2, .int .u8 2, .int .u8 19, .int .u8 3, .int .u8 3, .int .u8 3, .int .u8 3, .int .u8 3, .int .u8 3, .int .u8 3, .int .u8 3, .int .u8 3, .int .u8 3, .int .u8 3, .int .u8 3, .int .u8 35, .int .u8 3, .int .u8 3, .int .u8 52, .int .u8 4, .int .u8 4, .int .u8 4, .int .u8 68, .int .u8 241, .int .u8 241, .int .u8 241, .int .u8 241, .int .u8 241, .int .u8 241, .int .u8 241, .int .u8 241, .int .u8 241, .int .u8 241, .int .u8 241]
def laidL : List LE := [.mk 1 ctA, .mk 0 ctB, .mk 3 [.int .u64 1, .int .u64 10, .int .u64 100, .int .u64 1000, .int .u64 10000, .int .u64 100000, .int .u64 1000000, .int .u64 10000000, .int .u64 100000000, .int .u64 1000000000, .int .u64 10000000000, .int .u64 100000000000, .int .u64 1000000000000, .int .u64 10000000000000, .int .u64 100000000000000, .int .u64 1000000000000000, .int .u64 10000000000000000, .int .u64 100000000000000000, .int .u64 1000000000000000000, .int .u64 10000000000000000000]]
def rf : List LE → W → Bool
 | [], _ => true
 | .mk g cs :: l, w => (match eo (K.of g) w with
   | .ro t _ _ => bc (Nat.beq t (Nat.succ g)) (rf l w) false
   | _ => false)
def lq : List LE → H4
 | [] => ah9
 | .mk g cs :: l => dg (K.of g) (.ro (Nat.succ g) (cx cs) (nd cs 0 (j5 (cx cs)))) (lq l)
def ut : List LE → Bool
 | [] => true
 | .mk g cs :: l => bc (Nat.ble g 255 && aqs cs && Nat.ble (cx cs) 65536) (ut l) false
def wS : W := .mk (lq laidL) (K.of 256)
def bdw (o : Option CR) : Ih → FuncId → List AV → W → CR := Option.rec (motive := fun _ => Ih → FuncId → List AV → W → CR) amv (fun r _ _ _ _ => r) o
def enter (ih : Ih) (f : FuncId) (vs : List AV) (w : W) : CR := bdw (ih.hook f vs w) ih f vs w
def zy (nt : Nat) : List Nat → List AV → F → F
 | t :: ts, v :: vs, τ => zy nt ts vs (ak9 nt t v τ)
 | _, _, τ => τ
def ahn (b : K) (jump : Option Code) (st : LoopState) (v : Bool) (w : W) : CR := match eo b w with
 | .loop _ _ fn nt τ ps x y kd => .ret (.bool v) (wset b (.loop st jump fn nt τ ps x y kd) w)
 | _ => .no 245 0
def akc (b : K) (fn : Nat) (r : R) : CR := match r with
 | .n (.mk _ [] _ w) => ahn b none .ready true w
 | .x id (.mk _ [] _ w) => ahn b (some (.exit id)) .done false w
 | .r (.mk _ [] _ w) => ahn b (some .ret) .done false w
 | .p ch (.mk _ [] _ w) => bc (ako fn).isSome (.pan ch w) (.no 244 fn)
 | .no c f => .no c f
 | _ => .no 244 fn
def aps (ih : Ih) (b : K) (fn nt : Nat) (y : Code) (r : R) : CR := match r with
 | .n (.mk τ [] um w) => (match eo b w with
   | .loop .ready pend fn' nt' τ' ps x y' kd => akc b fn (ih y (.mk fn nt false (some b)) (.mk τ [] um (wset b (.loop .busy pend fn' nt' τ' ps x y' kd) w)))
   | _ => .no 242 fn)
 | .no c f => .no c f
 | _ => .no 243 fn
def ye (ih : Ih) (b : K) (vs : List AV) (w : W) : CR := match eo b w with
 | .loop _ _ fn nt τ ps x y _ => bc (Nat.beq (cx ps) (cx vs)) (aps ih b fn nt y (ih x (.mk fn nt false (some b)) (.mk (zy nt ps vs τ) [] .none w))) (.no 240 fn)
 | _ => .no 241 0
def mh (g : Nat × Bool) (all : List Oper) (τ : F) : Option Bool :=
 match (nth all g.1).bind (·.dst) with
 | some d => (match jj d τ with | .bool b => some (b == g.2) | .tuple _ => some false | _ => none)
 | none => none
def bfj (v : AV) (w : W) (dst : Option Nat) (IH : Oh) (ih : Ih) (all : List Oper) (C : Ctx) (τ : F) (ds : List AD) (um : UM) : R :=
 IH ih all C (.mk (qc C.nt dst v τ) ds um w)
def crK (r : CR) : Option Nat → Oh → Ih → List Oper → Ctx → F → List AD → UM → R :=
 CR.rec (motive := fun _ => Option Nat → Oh → Ih → List Oper → Ctx → F → List AD → UM → R)
  bfj
  (fun ch w _ _ _ _ _ τ ds um => .p ch (.mk τ ds um w))
  (fun c f _ _ _ _ _ _ _ _ => .no c f) r
def bfh (f : FuncId) (vs : List AV) (w : W) (dst : Option Nat) (IH : Oh) (ih : Ih) (all : List Oper) (C : Ctx) (τ : F) (ds : List AD) (um : UM) : R :=
 crK (enter ih f vs w) dst IH ih all C τ ds um
def bi6 (b : K) (vs : List AV) (w : W) (dst : Option Nat) (IH : Oh) (ih : Ih) (all : List Oper) (C : Ctx) (τ : F) (ds : List AD) (um : UM) : R :=
 crK (ye ih b vs w) dst IH ih all C τ ds um
def bi5 (v : AV) (w : W) (dst : Option Nat) (IH : Oh) (ih : Ih) (all : List Oper) (C : Ctx) (τ : F) (ds : List AD) (um : UM) : R := .p [.mk v false] (.mk τ ds um w)
def bi4 (d : AD) (w : W) (dst : Option Nat) (IH : Oh) (ih : Ih) (all : List Oper) (C : Ctx) (τ : F) (ds : List AD) (um : UM) : R :=
 match C.round with
 | none => IH ih all C (.mk (qc C.nt dst jo τ) (d :: ds) um w)
 | some _ => .no 211 C.fn
def ar4 (w : W) (dst : Option Nat) (IH : Oh) (ih : Ih) (all : List Oper) (C : Ctx) (τ : F) (ds : List AD) (um : UM) : R :=
 match C.round, C.dfr, um with
 | some _, _, _ => .no 212 C.fn
 | none, true, .pan (.mk v false :: older) => IH ih all C (.mk (qc C.nt dst v τ) ds (.pan (.mk v true :: older)) w)
 | none, _, um => IH ih all C (.mk (qc C.nt dst .nilIface τ) ds um w)
def orK (r : OR) : Option Nat → Oh → Ih → List Oper → Ctx → F → List AD → UM → R :=
 OR.rec (motive := fun _ => Option Nat → Oh → Ih → List Oper → Ctx → F → List AD → UM → R)
  bfj bfh bi6 bi5 bi4 ar4 (fun c _ _ _ _ C _ _ _ => .no c C.fn) r
def oGo (dst : Option Nat) (op : Op) (IH : Oh) (ih : Ih) (all : List Oper) (C : Ctx) (S : FSt) : R :=
 FSt.rec (motive := fun _ => Option Nat → Op → Oh → Ih → List Oper → Ctx → R)
  (fun τ ds um w dst op IH ih all C => orK (gOp op τ w) dst IH ih all C τ ds um) S dst op IH ih all C
def a9y (dst : Option Nat) (IH : Oh) (ih : Ih) (all : List Oper) (C : Ctx) (S : FSt) : R :=
 FSt.rec (motive := fun _ => Option Nat → Oh → Ih → List Oper → Ctx → R)
  (fun τ ds um w dst IH ih all C => IH ih all C (.mk (qc C.nt dst jo τ) ds um w)) S dst IH ih all C
def bbv (g : Nat × Bool) (dst : Option Nat) (op : Op) (IH : Oh) (ih : Ih) (all : List Oper) (C : Ctx) (S : FSt) : R :=
 match S with
 | .mk τ _ _ _ => match mh g all τ with
   | some true => oGo dst op IH ih all C S
   | some false => a9y dst IH ih all C S
   | none => .no 213 C.fn
def an0 (g : Option (Nat × Bool)) : Option Nat → Op → Oh → Ih → List Oper → Ctx → FSt → R :=
 Option.rec (motive := fun _ => Option Nat → Op → Oh → Ih → List Oper → Ctx → FSt → R) oGo bbv g
def bfi (o : Oper) : Oh → Ih → List Oper → Ctx → FSt → R :=
 Oper.rec (motive := fun _ => Oh → Ih → List Oper → Ctx → FSt → R)
  (fun dst op _ _ _ g IH ih all C S => an0 g dst op IH ih all C S) o
def ui (l : List Oper) : Oh :=
 List.rec (motive := fun _ => Oh) (fun _ _ _ S => .n S) (fun o _ IH ih all C S => bfi o IH ih all C S) l
def tb (m i : Nat) : Bool := Nat.beq (Nat.land (Nat.shiftRight m i) 1) 1
def ajz : Nat := 115792089237316195423570985008687907853269984665640564039457584007913129639936
def fld (M t : Nat) : Nat := Nat.mod (Nat.shiftRight M (Nat.mul t 256)) ajz
def aqr (M t m : Nat) : Nat := Nat.lor M (Nat.shiftLeft (Nat.mod m ajz) (Nat.mul t 256))
def a5j (x y : Nat) : Bool := Nat.beq (Nat.land x y) x
def awf : List Edge → Nat → Nat → Nat
 | [], _, s => s
 | e :: es, B, s => awf es B (bc (Region.binds .any e) (Nat.lor (Nat.lor s (Nat.shiftLeft 1 e.on)) (fld B e.on)) s)
def bat : List Oper → Nat → Nat → Nat
 | [], _, B => B
 | o :: os, j, B => bat os (Nat.succ j) (aqr B j (awf o.after.toList B 0))
def agx (ops : Array Oper) : Nat := bat ops.toList 0 0
def dk (ops : Array Oper) (j : Nat) : Nat := fld (agx ops) j
def d9 (ops : Array Oper) (i j : Nat) : Bool := tb (dk ops j) i
inductive CL where
 | pu
 | rd
 | fl
 | ef
 | mu
def zu : Op → CL
 | .move _ => .pu
 | .assign _ => .pu
 | .fieldAddr .. => .pu
 | .extract .. => .pu
 | .nilCheck _ => .pu
 | .load .. => .rd
 | .lookup .. => .rd
 | .convert .. => .rd
 | .binOp .. => .rd
 | .unOp .. => .rd
 | .index .. => .rd
 | .indexAddr .. => .rd
 | .field .. => .rd
 | .slice .. => .rd
 | .typeAssert .. => .rd
 | .pick .. => .rd
 | .build .. => .rd
 | .makeInterface .. => .rd
 | .makeFunc .. => .rd
 | .call { callee := .builtin .len, .. } => .rd
 | .call { callee := .builtin .min, .. } => .rd
 | .alloc _ => .fl
 | .box .. => .fl
 | .buildSlice .. => .fl
 | .makeMap .. => .fl
 | _ => .ef
inductive PM where
 | none
 | mk (i d : Nat)
def bcx (t : Nat) (d : Nat) : CL := bc (Nat.beq t d) .mu .ef
def a6u (d : Nat) : Op → CL
 | .insert _ (.tmp t) _ _ => bcx t d
 | op => zu op
def cls (pm : PM) (op : Op) : CL := PM.rec (motive := fun _ => Op → CL) zu (fun _ d => a6u d) pm op
def isP (pm : PM) (j : Nat) : Bool := match pm with
 | .none => false
 | .mk i _ => Nat.beq i j
def noP : PM → Bool
 | .none => true
 | .mk _ _ => false
def bbc : Op → Bool
 | .makeMap _ _ => true
 | _ => false
def a0t : List Oper → Nat → PM
 | [], _ => .none
 | o :: l, i => bc (bbc o.op) (match o.dst with
   | some d => .mk i d
   | none => a0t l (Nat.succ i)) (a0t l (Nat.succ i))
inductive PV where
 | none
 | mk (k : K) (es : List (AV × AV))
def akv (a b : AV) : Bool := match pq a b, pq b a with
 | some false, some false => true
 | _, _ => false
def aba (a : AV) : List (AV × AV) → Bool
 | [] => true
 | e :: l => bc (akv a e.1) (aba a l) false
def ar7 : List (AV × AV) → Bool
 | [] => true
 | e :: l => bc (aba e.1 l) (ar7 l) false
def a40 : PV → Bool
 | .none => true
 | .mk _ es => ar7 es
def aws (k : K) : AV → Bool
 | .map b => K.beq b k
 | _ => false
def a2m (p : PV) (w : W) : W := match p with
 | .none => w
 | .mk k es => wset k (.umap es) w
def a3r : CL → Bool
 | .ef => true
 | _ => false
def bd4 : CL → Bool
 | .fl => true
 | _ => false
def a1v (p : Nat → Bool) : Nat → Bool
 | 0 => true
 | n + 1 => bc (p n) (a1v p n) false
def pw (pm : PM) : List Oper → Nat
 | [] => 0
 | o :: l => bc (bd4 (cls pm o.op)) (pw pm l + 1) (pw pm l)
def ad0 (ops : Array Oper) : Nat := cx ops.toList
def aal (pm : PM) : List Oper → Nat → List Nat
 | [], _ => []
 | o :: l, j => bc (a3r (cls pm o.op)) (j :: aal pm l (Nat.succ j)) (aal pm l (Nat.succ j))
def akl (pm : PM) (ops : Array Oper) : List Nat := aal pm ops.toList 0
def agu (p : Nat → Bool) : List Nat → Bool
 | [] => true
 | x :: l => bc (p x) (agu p l) false
def afj (pm : PM) (ops : Array Oper) (j e : Nat) : Bool :=
 agu (fun x => bc (bc (d9 ops x j) (Nat.blt x e) true) (bc (Nat.blt x e) (ac6 (d9 ops j x)) true) false) (akl pm ops)
def uw (pm : PM) (ops : Array Oper) (j : Nat) : Bool :=
 ac6 (agu (fun x => bc (bc (Nat.blt x j) (d9 ops x j) true) (bc (Nat.blt j x) (d9 ops j x) true) false) (akl pm ops))
def ad8 : List Operand → List Nat
 | [] => []
 | .tmp t :: l => t :: ad8 l
 | _ :: l => ad8 l
def pj (all : List Oper) (o : Oper) : List Nat :=
 ad8 o.op.operands.toList ++ (o.dst.toList ++ (match o.guard with
  | some g => ((nth all g.1).bind (·.dst)).toList
  | none => []))
def abp (j : Nat) : List Edge → Bool
 | [] => true
 | e :: l => bc (bc (Region.binds .any e) (Nat.blt e.on j) true) (abp j l) false
def ava (Wm b : Nat) : List Nat → Bool
 | [] => true
 | t :: l => bc (a5j (fld Wm t) b) (ava Wm b l) false
def bcy (Rm b : Nat) : Option Nat → Bool
 | none => true
 | some d => a5j (fld Rm d) b
def bco (Wm j : Nat) : Option Nat → Nat
 | none => Wm
 | some d => aqr Wm d (Nat.shiftLeft 1 j)
def bap (j : Nat) : List Nat → Nat → Nat
 | [], Rm => Rm
 | t :: l, Rm => bap j l (aqr Rm t (Nat.shiftLeft 1 j))
def awc (pm : PM) (all : List Oper) (B : Nat) : List Oper → Nat → Nat → Nat → Nat → Bool
 | [], _, _, _, _ => true
 | o :: os, j, Wm, Rm, Em =>
   bc (abp j o.after.toList) (bc (ava Wm (fld B j) (pj all o)) (bc (bcy Rm (fld B j) o.dst) (bc (bc (a3r (cls pm o.op)) (a5j Em (fld B j)) true)
    (awc pm all B os (Nat.succ j) (bco Wm j o.dst) (bap j (pj all o) Rm) (bc (a3r (cls pm o.op)) (Nat.lor Em (Nat.shiftLeft 1 j)) Em)) false) false) false) false
def aak (pm : PM) (ops : Array Oper) : Bool := bc (Nat.ble (ad0 ops) 256) (awc pm ops.toList (agx ops) ops.toList 0 0 0 0) false
def dummy : Oper := { dst := none, op := .move (.func 0), type := 0, pos := "", after := #[], guard := none }
def m9 (B p : Nat) : List Oper → Nat → List Oper
 | [], _ => []
 | o :: l, j => bc (tb (fld B j) p) dummy o :: m9 B p l (Nat.succ j)
def gk (ops : Array Oper) (p : Nat) : Array Oper := (m9 (agx ops) p ops.toList 0).toArray
def ah8 (ops : Array Oper) (p : Nat) (o : Oper) : Bool := match o.guard with
 | some g => ac6 (d9 ops p g.1)
 | none => true
def a90 (ops opsT : Array Oper) (p j : Nat) : Bool := bc (d9 ops p j) true (bc (Nat.beq (dk ops j) (dk opsT j)) (bc (bc (uw .none opsT j) (uw .none ops j) true) (match nth ops.toList j with
 | some o => ah8 ops p o
 | none => true) false) false)
def a4v (ops opsT : Array Oper) (p : Nat) : Bool := bc (aak .none opsT) (bc (a1v (fun j => ac6 (d9 ops p j)) (Nat.succ p)) (a1v (a90 ops opsT p) (ad0 ops)) false) false
def aai (nt : Nat) : List Oper → F → F
 | [], τ => τ
 | o :: l, τ => aai nt l (qc nt o.dst .top τ)
inductive PF where
 | mk (i : Nat) (k : K) (o : AObj)
inductive RC where
 | mk (i : Nat) (op : Op) (τ : F) (v : AV)
inductive DS where
 | mk (τ : F) (w : W) (fk : K) (pend : List PF) (hist : List (Nat × W)) (recs : List RC) (pv : PV)
inductive DX where
 | ok (s : DS)
 | pan (ch : List PE) (w : W) (p : Nat) (s : DS)
 | no (c f : Nat)
def ga (m : Nat) : List PF → W → W
 | [], w => w
 | .mk i k o :: l, w => bc (tb m i) (wset k o (ga m l w)) (ga m l w)
def xi (m : Nat) : List PF → List PF
 | [] => []
 | .mk i k o :: l => bc (tb m i) (xi m l) (.mk i k o :: xi m l)
def ahd : List PF → W → W
 | [], w => w
 | .mk _ k o :: l, w => wset k o (ahd l w)
def hOf : W → H4 | .mk h _ => h
def a2l (o : Oper) (nt fn : Nat) : DS → DX
 | .mk τ w fk pend hist recs pv => match gD o.op τ w with
   | .val v _ => .ok (.mk (qc nt o.dst v τ) w fk pend hist recs pv)
   | .no c => .no c fn
   | _ => .no 230 fn
def amp (o : AObj) (off : Nat) : Option AV := match o with
 | .cells _ s _ _ _ c => bc (Nat.blt off s) (some (uc c off)) none
 | _ => none
def ana (pm : PM) (ops : Array Oper) (m : Nat) (k : K) (off : Nat) : List PF → Option AV
 | [] => none
 | .mk i k' o :: l => bc (K.beq k k' && (tb m i && agu (fun x => ac6 (tb (dk ops x) i)) (akl pm ops))) (amp o off) (ana pm ops m k off l)
def aia (pm : PM) (ops : Array Oper) (j : Nat) (op : Op) (τ : F) (pend : List PF) : Option AV := match op with
 | .load t a => (match qs t, evX a τ with
   | some none, .ptr k off => ana pm ops (dk ops j) k off pend
   | _, _ => none)
 | _ => none
def a2o (pm : PM) (ops : Array Oper) (i : Nat) (o : Oper) (nt fn : Nat) : DS → DX
 | .mk τ w fk pend hist recs pv => match gD o.op τ w with
   | .val v _ => .ok (.mk (qc nt o.dst v τ) w fk pend hist (bc (uw pm ops i) (.mk i o.op τ v :: recs) recs) pv)
   | .no c => (match aia pm ops i o.op τ pend with
     | some v => .ok (.mk (qc nt o.dst v τ) w fk pend hist recs pv)
     | none => .no c fn)
   | _ => .no 231 fn
def a3s : AObj → Bool
 | .map [] => true
 | _ => false
def atr (pm : PM) (i : Nat) (o : Oper) (nt fn : Nat) : DS → DX
 | .mk τ w fk pend hist recs pv => match gD o.op τ (.mk (hOf w) fk) with
   | .val v (.mk h' _) => bc (isP pm i)
      (bc (a3s (aa fk h')) (.ok (.mk (qc nt o.dst v τ) w fk.succ pend hist recs (.mk fk []))) (.no 239 fn))
      (.ok (.mk (qc nt o.dst v τ) w fk.succ (.mk i fk (aa fk h') :: pend) hist recs pv))
   | .no c => .no c fn
   | _ => .no 232 fn
def dMu (o : Oper) (nt fn : Nat) : DS → DX
 | .mk τ w fk pend hist recs (.mk k es) => (match o.op, o.guard with
   | .insert t m x y, none => bc (nq t && alh t (evX x τ) && aws k (evX m τ))
      (.ok (.mk (qc nt o.dst jo τ) w fk pend hist recs (.mk k (es ++ [(evX x τ, evX y τ)])))) (.no 229 fn)
   | _, _ => .no 228 fn)
 | _ => .no 227 fn
def a63 (pm : PM) (ih : Ih) (ops : Array Oper) (i : Nat) (o : Oper) (nt fn : Nat) : DS → DX
 | .mk τ w fk pend hist recs pv => match gD o.op τ (ga (dk ops i) pend w) with
   | .val v w' => .ok (.mk (qc nt o.dst v τ) w' fk (xi (dk ops i) pend) ((i, w) :: hist) recs pv)
   | .call f vs w' => (match enter ih f vs w' with
     | .ret v w'' => .ok (.mk (qc nt o.dst v τ) w'' fk (xi (dk ops i) pend) ((i, w) :: hist) recs pv)
     | .no c f => .no c f
     | .pan ch w'' => bc (noP pm) (.pan ch w'' i (.mk (qc nt o.dst .top τ) (ga (dk ops i) pend w) fk (xi (dk ops i) pend) ((i, w) :: hist) recs pv)) (.no 233 fn))
   | .no c => .no c fn
   | _ => .no 234 fn
def dGo (pm : PM) (ih : Ih) (ops : Array Oper) (i : Nat) (o : Oper) (nt fn : Nat) (s : DS) : DX := match cls pm o.op with
 | .pu => a2l o nt fn s
 | .rd => a2o pm ops i o nt fn s
 | .fl => atr pm i o nt fn s
 | .ef => a63 pm ih ops i o nt fn s
 | .mu => dMu o nt fn s
def a2s (pm : PM) (ops : Array Oper) (i : Nat) (o : Oper) (nt : Nat) : DS → DX
 | .mk τ w fk pend hist recs pv => match cls pm o.op with
   | .ef => .ok (.mk (qc nt o.dst jo τ) (ga (dk ops i) pend w) fk (xi (dk ops i) pend) ((i, w) :: hist) recs pv)
   | .mu => .no 226 0
   | _ => .ok (.mk (qc nt o.dst jo τ) w fk pend hist recs pv)
def DS.τ : DS → F | .mk τ .. => τ
def DS.w : DS → W | .mk _ w .. => w
def DS.fk : DS → K | .mk _ _ fk .. => fk
def DS.pend : DS → List PF | .mk _ _ _ p .. => p
def DS.hist : DS → List (Nat × W) | .mk _ _ _ _ h .. => h
def DS.recs : DS → List RC | .mk _ _ _ _ _ r _ => r
def DS.pv : DS → PV | .mk _ _ _ _ _ _ p => p
def sj (pm : PM) (ih : Ih) (ops : Array Oper) (i : Nat) (o : Oper) (nt fn : Nat) (s : DS) : DX := match o.guard with
 | none => dGo pm ih ops i o nt fn s
 | some g => match mh g ops.toList s.τ with
   | some true => dGo pm ih ops i o nt fn s
   | some false => a2s pm ops i o nt s
   | none => .no 235 fn
def a2k (r : DX) (k : DS → DX) : DX := match r with
 | .ok s => k s
 | .pan ch w p s => .pan ch w p s
 | .no c f => .no c f
def ahf (pm : PM) (ih : Ih) (ops : Array Oper) (nt fn : Nat) : List Oper → Nat → DS → DX
 | [], _, s => .ok s
 | o :: l, i, s => a2k (sj pm ih ops i o nt fn s) (ahf pm ih ops nt fn l (i + 1))
def a45 (op : Op) (τ : F) (v : AV) (w : W) : Bool := match gD op τ w with
 | .val v' _ => a93 v v'
 | _ => false
def a2q (pm : PM) (ops : Array Oper) : RC → List (Nat × W) → Bool
 | _, [] => true
 | .mk i op τ v, (e, w) :: l => bc (bc (afj pm ops i e) (a45 op τ v w) true) (a2q pm ops (.mk i op τ v) l) false
def zw (pm : PM) (ops : Array Oper) : List RC → List (Nat × W) → Bool
 | [], _ => true
 | r :: l, h => bc (a2q pm ops r h) (zw pm ops l h) false
def aqg (ops opsT : Array Oper) (fn nt : Nat) (τ0 : F) (ds : List AD) (um : UM) (ch : List PE) (w2 : W) : DX → R
 | .ok (.mk _ w _ _ hist recs _) => bc (zw .none opsT recs ((ad0 ops, w) :: hist)) (.p ch (.mk (aai nt ops.toList τ0) ds um w2)) (.no 236 fn)
 | .pan _ _ _ _ => .no 225 fn
 | .no c f => .no c f
def awb (ih : Ih) (ops opsT : Array Oper) (fn nt : Nat) (τ0 : F) (ds : List AD) (um : UM) (ch : List PE) (w2 : W) (p : Nat) (s : DS) : R :=
 bc (a4v ops opsT p) (aqg ops opsT fn nt τ0 ds um ch w2 (ahf .none ih opsT nt fn (opsT.toList.drop (Nat.succ p)) (Nat.succ p) s)) (.no 233 fn)
def ba4 (pm : PM) (ih : Ih) (ops : Array Oper) (fn nt : Nat) (τ0 : F) (ds : List AD) (um : UM) : DX → R
 | .ok (.mk τ w _ pend hist recs pv) => bc (zw pm ops recs ((ad0 ops, w) :: hist) && a40 pv) (.n (.mk τ ds um (a2m pv (ahd pend w)))) (.no 236 fn)
 | .pan ch w2 p s => awb ih ops (gk ops p) fn nt τ0 ds um ch w2 p s
 | .no c f => .no c f
def asf : Nat → K → Option K
 | 0, k => some k
 | n + 1, k => bc k.isMax none (asf n k.succ)
def ahh (pm : PM) (ih : Ih) (ops : Array Oper) (nt fn : Nat) (τ : F) (h : H4) (nx : K) (ds : List AD) (um : UM) : Option K → R
 | some nx' => ba4 pm ih ops fn nt τ ds um (ahf pm ih ops nt fn ops.toList 0 (.mk τ (.mk h nx') nx [] [] [] .none))
 | none => .no 237 fn
def ag2 (pm : PM) (ops : Array Oper) (ih : Ih) (C : Ctx) : FSt → R
 | .mk τ ds um (.mk h nx) => bc (aak pm ops) (ahh pm ih ops C.nt C.fn τ h nx ds um (asf (pw pm ops.toList) nx)) (.no 238 C.fn)
def av7 (_ : Nat) (ops : Array Oper) (ih : Ih) (C : Ctx) (S : FSt) : R := bc (aak .none ops) (ag2 .none ops ih C S) (ag2 (a0t ops.toList 0) ops ih C S)
def bay (_ : Nat) (ops : Array Oper) (ih : Ih) (C : Ctx) (S : FSt) : R := ui ops.toList ih ops.toList C S
def a6o (id : Nat) (ops : Array Oper) (draw : Bool) : Ih → Ctx → FSt → R := Bool.rec (motive := fun _ => Nat → Array Oper → Ih → Ctx → FSt → R) bay av7 draw id ops
def ajp (r : R) : Ih → Code → Ctx → R := R.rec (motive := fun _ => Ih → Code → Ctx → R)
 (fun S ih b C => ih b C S) (fun id S _ _ _ => .x id S) (fun S _ _ _ => .r S) (fun ch S _ _ _ => .p ch S) (fun c f _ _ _ => .no c f) r
abbrev Rh := Ih → Ctx → FSt → R
def bh5 (a b : Code) (_ _ : Rh) (ih : Ih) (C : Ctx) (S : FSt) : R := ajp (ih a C S) ih b C
def a2f (v : AV) (x y : Code) (ih : Ih) (C : Ctx) (S : FSt) : R := match v with
 | .bool b => ih (bc b x y) C S
 | _ => .no 214 C.fn
def FSt.τ (S : FSt) : F := FSt.rec (motive := fun _ => F) (fun τ _ _ _ => τ) S
def bcv (c : Operand) (x y : Code) (_ _ : Rh) (ih : Ih) (C : Ctx) (S : FSt) : R := a2f (evX c S.τ) x y ih C S
def atj (r : R) : Nat → R := R.rec (motive := fun _ => Nat → R)
 (fun S _ => .n S) (fun id' S id => bc (Nat.beq id' id) (.n S) (.x id' S)) (fun S _ => .r S) (fun ch S _ => .p ch S) (fun c f _ => .no c f) r
def bax (id : Nat) (b : Code) (_ : Rh) (ih : Ih) (C : Ctx) (S : FSt) : R := atj (ih b C S) id
def qv (b : Code) (ih : Ih) (C : Ctx) (S : FSt) : R := ajp (ih b C S) ih (.loop b) C
def awz (o : Option R) : Code → Ih → Ctx → FSt → R := Option.rec (motive := fun _ => Code → Ih → Ctx → FSt → R) qv (fun r _ _ _ _ => r) o
def bcw (b : Code) (_ : Rh) (ih : Ih) (C : Ctx) (S : FSt) : R := awz (ih.lp C b S) b ih C S
def a3q : LoopState → Bool
 | .busy => true
 | _ => false
def a42 (τ : F) (ds : List AD) (um : UM) (kl : K) (r : CR) : R := match r with
 | .ret _ w => (match eo kl w with
   | .loop st pend fn nt τ' ps x y kd => bc (a3q st) (.no 248 fn) (match pend with
     | none => .n (.mk τ ds um (wset kl (.loop .exhausted pend fn nt τ' ps x y kd) w))
     | some (.exit id) => .x id (.mk τ ds um (wset kl (.loop .exhausted pend fn nt τ' ps x y kd) w))
     | some .ret => .r (.mk τ ds um (wset kl (.loop .exhausted pend fn nt τ' ps x y kd) w))
     | _ => .no 249 fn)
   | _ => .no 250 0)
 | .pan ch w => .p ch (.mk τ ds um w)
 | .no c f => .no c f
def ajf (ih : Ih) (fn : Nat) (τ : F) (ds : List AD) (um : UM) (kl : K) (r : OR) : R := match r with
 | .call g vs w => a42 τ ds um kl (enter ih g vs w)
 | _ => .no 247 fn
def amn (f : Operand) (ps : Array Tmp) (x y : Code) (ih : Ih) (C : Ctx) (S : FSt) : R := match S, C.round with
 | .mk τ ds um (.mk h nx), none => bc nx.isMax (.no 246 0) (bc nx.succ.isMax (.no 246 1)
    (ajf ih C.fn τ (.coll nx :: ds) um nx.succ (aej (evX f τ) [.func (.yield nx.succ.num) [] []] (.mk (dg nx.succ (.loop .ready none C.fn C.nt τ ps.toList x y nx) (dg nx (.deferred (some [])) h)) nx.succ.succ))))
 | _, _ => .no 246 2
def a95 (ih : Ih) (c : Code) : Ctx → FSt → R := Code.rec (motive := fun _ => Rh)
 (fun _ _ S => .n S) a6o bh5 bcv bax bcw (fun f ps x y _ _ => amn f ps x y) (fun id _ _ S => .x id S)
 (fun _ _ _ C _ => .no 216 C.fn) (fun _ _ _ S => .n S) (fun _ _ C _ => .no 217 C.fn) (fun _ _ S => .r S) (fun _ _ C _ => .no 218 C.fn) c ih
abbrev ac3 := FuncId → List AV → W → Option CR
abbrev se := Ctx → Code → FSt → Option R
def be6 (_ : Ctx) (_ : Code) (_ : FSt) : Option R := none
def bjf (H : ac3) (L : se) (n : Nat) : Code → Ctx → FSt → R := Nat.rec (motive := fun _ => Code → Ctx → FSt → R) (fun _ _ _ => .no 219 0) (fun _ r => a95 (Ih.mk H r L)) n
def ad3 (H : ac3) (L : se) (n : Nat) : Ih := Ih.mk H (bjf H L n) L
def run (H : ac3) (n : Nat) : Ih := ad3 H be6 n
def bbq (_ : FuncId) (_ : List AV) (_ : W) : Option CR := none
inductive HE where
 | mk (f : FuncId) (vs : List AV) (v : AV)
def w0 : W := .mk ah9 (K.of 256)
end
end Go.Ev
