import Derived.Test.YtocilenpboklbaaGreatDoorEvFx
set_option linter.all false
namespace Go.Ev
noncomputable section
inductive PE where
 | mk (v : AV) (rec : Bool)
inductive UM where
 | none
 | ret
 | pan (ch : List PE)
inductive FSt where
 | mk (τ : F) (ds : List AD) (um : UM) (w : W)
inductive Ctx where
 | mk (fn nt : Nat) (dfr : Bool) (round : Option K)
def Ctx.nt (C : Ctx) : Nat := Ctx.rec (motive := fun _ => Nat) (fun _ nt _ _ => nt) C
def Ctx.fn (C : Ctx) : Nat := Ctx.rec (motive := fun _ => Nat) (fun fn _ _ _ => fn) C
def Ctx.dfr (C : Ctx) : Bool := Ctx.rec (motive := fun _ => Bool) (fun _ _ d _ => d) C
def Ctx.round (C : Ctx) : Option K := Ctx.rec (motive := fun _ => Option K) (fun _ _ _ r => r) C
inductive R where
 | n (S : FSt)
 | x (id : Nat) (S : FSt)
 | r (S : FSt)
 | p (ch : List PE) (S : FSt)
 | no (c f : Nat)
inductive CR where
 | ret (v : AV) (w : W)
 | pan (ch : List PE) (w : W)
 | no (c f : Nat)
structure Ih where
 hook : FuncId → List AV → W → Option CR
 run : Code → Ctx → FSt → R
 lp : Ctx → Code → FSt → Option R
instance : CoeFun Ih (fun _ => Code → Ctx → FSt → R) := ⟨Ih.run⟩
abbrev Oh := Ih → List Oper → Ctx → FSt → R
def ao5 (τ : F) (w : W) : ResultVar → Option AV
 | .tmp t => some (gr t τ)
 | .cell a t => match gr a τ with
   | .ptr b o => (match ur t (.ptr b o) w with
     | .val v _ => some v
     | _ => none)
   | _ => none
def aj4 (τ : F) (w : W) : List ResultVar → Option (List AV)
 | [] => some []
 | r :: rs => (ao5 τ w r).bind fun v => (aj4 τ w rs).map (v :: ·)
def bql : List AV → AV
 | [v] => v
 | vs => .tuple vs
def results (fn : Func) (τ : F) (w : W) : CR := match aj4 τ w fn.results.toList with
 | some vs => .ret (bql vs) w
 | none => .no 200 0
def settle : UM → UM
 | .pan (.mk _ true :: _) => .ret
 | u => u
def raised (u : UM) (ch : List PE) : UM := match u with
 | .pan old => .pan (ch ++ old)
 | _ => .pan ch
inductive DR where
 | ret (u : UM) (w : W)
 | pan (ch : List PE) (u : UM) (w : W)
 | no (c f : Nat)
def v6 (f : FuncId) : Option (Func × Code) := match alj f with
 | some fn => match fn.body with
   | some c => bc (Nat.ble fn.ntmps 512) (some (fn, c)) none
   | none => none
 | none => none
def akc (ih : Ih) (fn : Func) (c : Code) (f : FuncId) (vs : List AV) (dfr : Bool) (u : UM) (w : W) : R :=
 bc (Nat.ble (bq vs) fn.ntmps) (ih c (.mk f fn.ntmps dfr none) (.mk (nw vs 0 mt) [] u w)) (.no 201 f)
def ad6 (fn : Func) (r : R) : DR := match r with
 | .n (.mk τ [] u w) | .r (.mk τ [] u w) => (match results fn τ w with | .ret _ _ => .ret u w | _ => .no 202 0)
 | .p ch (.mk _ [] u w) => .pan ch u w
 | .no c f => .no c f
 | _ => .no 203 0
def aiq (ih : Ih) (f : FuncId) (vs : List AV) (u : UM) (w : W) : DR := match v6 f with
 | some (fn, c) => ad6 fn (akc ih fn c f vs true u w)
 | none => .no 204 f
def og (ih : Ih) (fn : Func) (τ : F) : List AD → UM → W → CR
 | [], .ret, w => results fn τ w
 | [], .pan ch, w => .pan ch w
 | [], .none, _ => .no 205 0
 | .call (.func f) cap args :: ds, u, w => (match ui f (args ++ cap) w with
   | .call f vs w => (match aiq ih f vs u w with
     | .ret u' w' => og ih fn τ ds (settle u') w'
     | .pan ch u' w' => og ih fn τ ds (raised u' ch) w'
     | .no c f => .no c f)
   | _ => .no 206 0)
 | .coll b :: ds, u, w => (match cu b w with
   | .deferred (some []) => og ih fn τ ds u (wset b (.deferred none) w)
   | _ => .no 206 1)
 | _ :: _, _, _ => .no 207 0
def a9v (ih : Ih) (fn : Func) (r : R) : CR := match r with
 | .n (.mk τ ds _ w) | .r (.mk τ ds _ w) => og ih fn τ ds .ret w
 | .p ch (.mk τ ds _ w) => og ih fn τ ds (.pan ch) w
 | .no c f => .no c f
 | _ => .no 208 0
def a8s (ih : Ih) (f : FuncId) (vs : List AV) (w : W) (b : Func × Code) : CR := a9v ih b.1 (akc ih b.1 b.2 f vs false .none w)
def anr (ih : Ih) (f : FuncId) (vs : List AV) (w : W) : CR := match v6 f with
 | some b => a8s ih f vs w b
 | none => .no 209 f
def bo0 : AV → Bool
 | .bool _ => true
 | .int _ _ => true
 | .str _ _ => true
 | .nilPtr => true
 | .nilSlice => true
 | .nilMap => true
 | .nilIface => true
 | .nilFunc => true
 | _ => false
def atj : List AV → Bool
 | [] => true
 | v :: l => bc (bo0 v) (atj l) false
def od : List SA → List SA → Bool
 | [], [] => true
 | .mk lt a b r :: l, .mk lt' a' b' r' :: m => bc (zi lt lt') (bc (fq a a') (bc (fq b b') (bc (zi r r') (od l m) false) false) false) false
 | _, _ => false
def aow : List (Nat × Nat) → List (Nat × Nat) → Bool
 | [], [] => true
 | p :: l, q :: m => bc (Nat.beq p.1 q.1) (bc (Nat.beq p.2 q.2) (aow l m) false) false
 | _, _ => false
def awn : GV → GV → Bool
 | .str g A, .str g' A' => bc (mq g g') (od A A') false
 | .sl b es n A, .sl b' es' n' A' => bc (K.beq b b') (bc (Nat.beq es es') (bc (fq n n') (od A A') false) false) false
 | .ptr b es i o A, .ptr b' es' i' o' A' => bc (K.beq b b') (bc (Nat.beq es es') (bc (fq i i') (bc (Nat.beq o o') (od A A') false) false) false) false
 | .sr b o n A, .sr b' o' n' A' => bc (K.beq b b') (bc (fq o o') (bc (fq n n') (od A A') false) false) false
 | .pr b o i A, .pr b' o' i' A' => bc (K.beq b b') (bc (fq o o') (bc (fq i i') (od A A') false) false) false
 | _, _ => false
def a0i : AV → AV → Bool
 | .bool a, .bool b => (match a, b with | true, true => true | false, false => true | _, _ => false)
 | .int k m, .int l n => bc (qg k l) (ad2 m n) false
 | .str l n, .str l' n' => sEq l n l' n'
 | .nilPtr, .nilPtr => true
 | .ptr b o, .ptr b' o' => bc (K.beq b b') (Nat.beq o o') false
 | .nilSlice, .nilSlice => true
 | .slice b o len cap none, .slice b' o' len' cap' none => bc (K.beq b b') (bc (Nat.beq o o') (bc (Nat.beq len len') (Nat.beq cap cap') false) false) false
 | .slice b o len cap (some e), .slice b' o' len' cap' (some e') => bc (K.beq b b') (bc (Nat.beq o o') (bc (Nat.beq len len') (bc (Nat.beq cap cap') (Nat.beq e e') false) false) false) false
 | .nilMap, .nilMap => true
 | .map b, .map b' => K.beq b b'
 | .nilFunc, .nilFunc => true
 | .nilIface, .nilIface => true
 | .wse b, .wse b' => K.beq b b'
 | .sym k e A, .sym k' e' A' => bc (qg k k') (bc (fq e e') (od A A') false) false
 | .sx c e A, .sx c' e' A' => bc (Nat.beq c c') (bc (fq e e') (aow A A') false) false
 | .gv x, .gv y => awn x y
 | .wsl b k d n, .wsl b' k' d' n' => bc (K.beq b b') (bc (K.beq k k') (bc (Nat.beq d d') (Nat.beq n n') false) false) false
 | .wptr b k i, .wptr b' k' i' => bc (K.beq b b') (bc (K.beq k k') (Nat.beq i i') false) false
 | .esl, .esl => true
 | .top, .top => true
 | _, _ => false
def aaf (f : AV → AV → Bool) : List AV → List AV → Bool
 | [], [] => true
 | a :: l, b :: m => bc (f a b) (aaf f l m) false
 | _, _ => false
def a87 : Fn → Fn → Bool
 | .func f, .func g => Nat.beq f g
 | _, _ => false
def alb : Nat → AV → AV → Bool
 | 0, _, _ => false
 | n + 1, a, b => match a, b with
   | .agg l, .agg m => aaf (alb n) l m
   | .tuple l, .tuple m => aaf (alb n) l m
   | .iface t x, .iface t' y => bc (Nat.beq t t') (alb n x y) false
   | .func f x y, .func g x' y' => bc (a87 f g) (bc (aaf (alb n) x x') (aaf (alb n) y y') false) false
   | a, b => a0i a b
def bmq (a b : AV) : Bool := alb 8 a b
inductive LE where
 | mk (g : Nat) (cells : List AV)
abbrev ctA : List AV := [.int .u8 128, .int .u8 191, .int .u8 160, .int .u8 191, .int .u8 128, .int .u8 159, .int .u8 144, .int .u8 191, .int .u8 128, .int .u8 143, .int .u8 0, .int .u8 0, .int .u8 0, .int .u8 0, .int .u8 0, .int .u8 0, .int .u8 0, .int .u8 0, .int .u8 0, .int .u8 0, .int .u8 0, .int .u8 0, .int .u8 0, .int .u8 0, .int .u8 0, .int .u8 0, .int .u8 0, .int .u8 0, .int .u8 0, .int .u8 0, .int .u8 0, .int .u8 0]
abbrev ctB : List AV := [.int .u8 240, .int .u8 240, .int .u8 240, .int .u8 240, .int .u8 240, .int .u8 240, .int .u8 240, .int .u8 240, .int .u8 240, .int .u8 240, .int .u8 240, .int .u8 240, .int .u8 240, .int .u8 240, .int .u8 240, .int .u8 240, .int .u8 240, .int .u8 240, .int .u8 240, .int .u8 240, .int .u8 240, .int .u8 240, .int .u8 240, .int .u8 240, .int .u8 240, .int .u8 240, .int .u8 240, .int .u8 240, .int .u8 240, .int .u8 240, .int .u8 240, .int .u8 240, .int .u8 240, .int .u8 240, .int .u8 240, .int .u8 240, .int .u8 240, .int .u8 240, .int .u8 240, .int .u8 240, .int .u8 240, .int .u8 240, .int .u8 240, .int .u8 240, .int .u8 240, .int .u8 240, .int .u8 240, .int .u8 240, .int .u8 240, .int .u8 240, .int .u8 240, .int .u8 240, .int .u8 240, .int .u8 240, .int .u8 240, .int .u8 240, .int .u8 240, .int .u8 240, .int .u8 240, .int .u8 240, .int .u8 240, .int .u8 240, .int .u8 240, .int .u8 240, .int .u8 240, .int .u8 240, .int .u8 240, .int .u8 240, .int .u8 240, .int .u8 240, .int .u8 240, .int .u8 240, .int .u8 240, .int .u8 240, .int .u8 240, .int .u8 240, .int .u8 240, .int .u8 240, .int .u8 240, .int .u8 240, .int .u8 240, .int .u8 240, .int .u8 240, .int .u8 240, .int .u8 240, .int .u8 240, .int .u8 240, .int .u8 240, .int .u8 240, .int .u8 240, .int .u8 240, .int .u8 240, .int .u8 240, .int .u8 240, .int .u8 240, .int .u8 240, .int .u8 240, .int .u8 240, .int .u8 240, .int .u8 240, .int .u8 240, .int .u8 240, .int .u8 240, .int .u8 240, .int .u8 240, .int .u8 240, .int .u8 240, .int .u8 240, .int .u8 240, .int .u8 240, .int .u8 240, .int .u8 240, .int .u8 240, .int .u8 240, .int .u8 240, .int .u8 240, .int .u8 240, .int .u8 240, .int .u8 240, .int .u8 240, .int .u8 240, .int .u8 240, .int .u8 240, .int .u8 240, .int .u8 240, .int .u8 240, .int .u8 240, .int .u8 240, .int .u8 241, .int .u8 241, .int .u8 241, .int .u8 241, .int .u8 241, .int .u8 241, .int .u8 241, .int .u8 241, .int .u8 241, .int .u8 241, .int .u8 241, .int .u8 241, .int .u8 241, .int .u8 241, .int .u8 241, .int .u8 241, .int .u8 241, .int .u8 241, .int .u8 241, .int .u8 241, .int .u8 241, .int .u8 241, .int .u8 241, .int .u8 241, .int .u8 241, .int .u8 241, .int .u8 241, .int .u8 241, .int .u8 241, .int .u8 241, .int .u8 241, .int .u8 241, .int .u8 241, .int .u8 241, .int .u8 241, .int .u8 241, .int .u8 241, .int .u8 241, .int .u8 241, .int .u8 241, .int .u8 241, .int .u8 241, .int .u8 241, .int .u8 241, .int .u8 241, .int .u8 241, .int .u8 241, .int .u8 241, .int .u8 241, .int .u8 241, .int .u8 241, .int .u8 241, .int .u8 241, .int .u8 241, .int .u8 241, .int .u8 241, .int .u8 241, .int .u8 241, .int .u8 241, .int .u8 241, .int .u8 241, .int .u8 241, .int .u8 241, .int .u8 241, .int .u8 241, .int .u8 241, .int .u8 2, .int .u8 2, .int .u8 2, .int .u8 2, .int .u8 2, .int .u8 2, .int .u8 2, .int .u8 2, .int .u8 2, .int .u8 2, .int .u8 2, .int .u8 2, .int .u8 2, .int .u8 2, .int .u8 2, .int .u8 2, .int .u8 2, .int .u8 2, .int .u8 2, .int .u8 2, .int .u8 2, .int .u8 2, .int .u8 2, .int .u8 2, .int .u8 2, .int .u8 2, .int .u8 2, .int .u8 2, .int .u8 2, .int .u8 2, .int .u8 19, .int .u8 3, .int .u8 3, .int .u8 3, .int .u8 3, .int .u8 3, .int .u8 3, .int .u8 3, .int .u8 3, .int .u8 3, .int .u8 3, .int .u8 3, .int .u8 3, .int .u8 35, .int .u8 3, .int .u8 3, .int .u8 52, .int .u8 4, .int .u8 4, .int .u8 4, .int .u8 68, .int .u8 241, .int .u8 241, .int .u8 241, .int .u8 241, .int .u8 241, .int .u8 241, .int .u8 241, .int .u8 241, .int .u8 241, .int .u8 241, .int .u8 241]
def laidL : List LE := [.mk 1 ctA, .mk 0 ctB, .mk 3 [.int .u64 1, .int .u64 10, .int .u64 100, .int .u64 1000, .int .u64 10000, .int .u64 100000, .int .u64 1000000, .int .u64 10000000, .int .u64 100000000, .int .u64 1000000000, .int .u64 10000000000, .int .u64 100000000000, .int .u64 1000000000000, .int .u64 10000000000000, .int .u64 100000000000000, .int .u64 1000000000000000, .int .u64 10000000000000000, .int .u64 100000000000000000, .int .u64 1000000000000000000, .int .u64 10000000000000000000]]
def qh : List LE → W → Bool
 | [], _ => true
 | .mk g cs :: l, w => (match cu (K.of g) w with
   | .ro t _ _ => bc (Nat.beq t (Nat.succ g)) (qh l w) false
   | _ => false)
def l8 : List LE → H4
 | [] => ai8
 | .mk g cs :: l => b8 (K.of g) (.ro (Nat.succ g) (bq cs) (mc cs 0 (jo (bq cs)))) (l8 l)
def tq : List LE → Bool
 | [] => true
 | .mk g cs :: l => bc (Nat.ble g 255 && atj cs && Nat.ble (bq cs) 65536) (tq l) false
def wS : W := .mk (l8 laidL) (K.of 256)
def btk (o : Option CR) : Ih → FuncId → List AV → W → CR := Option.rec (motive := fun _ => Ih → FuncId → List AV → W → CR) anr (fun r _ _ _ _ => r) o
def enter (ih : Ih) (f : FuncId) (vs : List AV) (w : W) : CR := btk (ih.hook f vs w) ih f vs w
def zg (nt : Nat) : List Nat → List AV → F → F
 | t :: ts, v :: vs, τ => zg nt ts vs (al9 nt t v τ)
 | _, _, τ => τ
def aip (b : K) (jump : Option Code) (st : LoopState) (v : Bool) (w : W) : CR := match cu b w with
 | .loop _ _ fn nt τ ps x y kd => .ret (.bool v) (wset b (.loop st jump fn nt τ ps x y kd) w)
 | _ => .no 245 0
def ak6 (b : K) (fn : Nat) (r : R) : CR := match r with
 | .n (.mk _ [] _ w) => aip b none .ready true w
 | .x id (.mk _ [] _ w) => aip b (some (.exit id)) .done false w
 | .r (.mk _ [] _ w) => aip b (some .ret) .done false w
 | .p ch (.mk _ [] _ w) => bc (alj fn).isSome (.pan ch w) (.no 244 fn)
 | .no c f => .no c f
 | _ => .no 244 fn
def asg (ih : Ih) (b : K) (fn nt : Nat) (y : Code) (r : R) : CR := match r with
 | .n (.mk τ [] um w) => (match cu b w with
   | .loop .ready pend fn' nt' τ' ps x y' kd => ak6 b fn (ih y (.mk fn nt false (some b)) (.mk τ [] um (wset b (.loop .busy pend fn' nt' τ' ps x y' kd) w)))
   | _ => .no 242 fn)
 | .no c f => .no c f
 | _ => .no 243 fn
def xl (ih : Ih) (b : K) (vs : List AV) (w : W) : CR := match cu b w with
 | .loop _ _ fn nt τ ps x y _ => bc (Nat.beq (bq ps) (bq vs)) (asg ih b fn nt y (ih x (.mk fn nt false (some b)) (.mk (zg nt ps vs τ) [] .none w))) (.no 240 fn)
 | _ => .no 241 0
def kw (g : Nat × Bool) (all : List Oper) (τ : F) : Option Bool :=
 match (nth all g.1).bind (·.dst) with
 | some d => (match gr d τ with | .bool b => some (b == g.2) | .tuple _ => some false | _ => none)
 | none => none
def bum (v : AV) (w : W) (dst : Option Nat) (IH : Oh) (ih : Ih) (all : List Oper) (C : Ctx) (τ : F) (ds : List AD) (um : UM) : R :=
 IH ih all C (.mk (qe C.nt dst v τ) ds um w)
def crK (r : CR) : Option Nat → Oh → Ih → List Oper → Ctx → F → List AD → UM → R :=
 CR.rec (motive := fun _ => Option Nat → Oh → Ih → List Oper → Ctx → F → List AD → UM → R)
  bum
  (fun ch w _ _ _ _ _ τ ds um => .p ch (.mk τ ds um w))
  (fun c f _ _ _ _ _ _ _ _ => .no c f) r
def buk (f : FuncId) (vs : List AV) (w : W) (dst : Option Nat) (IH : Oh) (ih : Ih) (all : List Oper) (C : Ctx) (τ : F) (ds : List AD) (um : UM) : R :=
 crK (enter ih f vs w) dst IH ih all C τ ds um
def b0y (b : K) (vs : List AV) (w : W) (dst : Option Nat) (IH : Oh) (ih : Ih) (all : List Oper) (C : Ctx) (τ : F) (ds : List AD) (um : UM) : R :=
 crK (xl ih b vs w) dst IH ih all C τ ds um
def b0x (v : AV) (w : W) (dst : Option Nat) (IH : Oh) (ih : Ih) (all : List Oper) (C : Ctx) (τ : F) (ds : List AD) (um : UM) : R := .p [.mk v false] (.mk τ ds um w)
def b0w (d : AD) (w : W) (dst : Option Nat) (IH : Oh) (ih : Ih) (all : List Oper) (C : Ctx) (τ : F) (ds : List AD) (um : UM) : R :=
 match C.round with
 | none => IH ih all C (.mk (qe C.nt dst gu τ) (d :: ds) um w)
 | some _ => .no 211 C.fn
def aup (w : W) (dst : Option Nat) (IH : Oh) (ih : Ih) (all : List Oper) (C : Ctx) (τ : F) (ds : List AD) (um : UM) : R :=
 match C.round, C.dfr, um with
 | some _, _, _ => .no 212 C.fn
 | none, true, .pan (.mk v false :: older) => IH ih all C (.mk (qe C.nt dst v τ) ds (.pan (.mk v true :: older)) w)
 | none, _, um => IH ih all C (.mk (qe C.nt dst .nilIface τ) ds um w)
def orK (r : OR) : Option Nat → Oh → Ih → List Oper → Ctx → F → List AD → UM → R :=
 OR.rec (motive := fun _ => Option Nat → Oh → Ih → List Oper → Ctx → F → List AD → UM → R)
  bum buk b0y b0x b0w aup (fun c _ _ _ _ C _ _ _ => .no c C.fn) r
def oGo (dst : Option Nat) (op : Op) (IH : Oh) (ih : Ih) (all : List Oper) (C : Ctx) (S : FSt) : R :=
 FSt.rec (motive := fun _ => Option Nat → Op → Oh → Ih → List Oper → Ctx → R)
  (fun τ ds um w dst op IH ih all C => orK (gOp op τ w) dst IH ih all C τ ds um) S dst op IH ih all C
def bl9 (dst : Option Nat) (IH : Oh) (ih : Ih) (all : List Oper) (C : Ctx) (S : FSt) : R :=
 FSt.rec (motive := fun _ => Option Nat → Oh → Ih → List Oper → Ctx → R)
  (fun τ ds um w dst IH ih all C => IH ih all C (.mk (qe C.nt dst gu τ) ds um w)) S dst IH ih all C
def bpz (g : Nat × Bool) (dst : Option Nat) (op : Op) (IH : Oh) (ih : Ih) (all : List Oper) (C : Ctx) (S : FSt) : R :=
 match S with
 | .mk τ _ _ _ => match kw g all τ with
   | some true => oGo dst op IH ih all C S
   | some false => bl9 dst IH ih all C S
   | none => .no 213 C.fn
def aoy (g : Option (Nat × Bool)) : Option Nat → Op → Oh → Ih → List Oper → Ctx → FSt → R :=
 Option.rec (motive := fun _ => Option Nat → Op → Oh → Ih → List Oper → Ctx → FSt → R) oGo bpz g
def bul (o : Oper) : Oh → Ih → List Oper → Ctx → FSt → R :=
 Oper.rec (motive := fun _ => Oh → Ih → List Oper → Ctx → FSt → R)
  (fun dst op _ _ _ g IH ih all C S => aoy g dst op IH ih all C S) o
def tf (l : List Oper) : Oh :=
 List.rec (motive := fun _ => Oh) (fun _ _ _ S => .n S) (fun o _ IH ih all C S => bul o IH ih all C S) l
def tb (m i : Nat) : Bool := Nat.beq (Nat.land (Nat.shiftRight m i) 1) 1
def akj : Nat := 115792089237316195423570985008687907853269984665640564039457584007913129639936
def fld (M t : Nat) : Nat := Nat.mod (Nat.shiftRight M (Nat.mul t 256)) akj
def ati (M t m : Nat) : Nat := Nat.lor M (Nat.shiftLeft (Nat.mod m akj) (Nat.mul t 256))
def bbu (x y : Nat) : Bool := Nat.beq (Nat.land x y) x
def azh : List Edge → Nat → Nat → Nat
 | [], _, s => s
 | e :: es, B, s => azh es B (bc (Region.binds .any e) (Nat.lor (Nat.lor s (Nat.shiftLeft 1 e.on)) (fld B e.on)) s)
def bod : List Oper → Nat → Nat → Nat
 | [], _, B => B
 | o :: os, j, B => bod os (Nat.succ j) (ati B j (azh o.after.toList B 0))
def ahw (ops : Array Oper) : Nat := bod ops.toList 0 0
def dc (ops : Array Oper) (j : Nat) : Nat := fld (ahw ops) j
def cz (ops : Array Oper) (i j : Nat) : Bool := tb (dc ops j) i
inductive CL where
 | pu
 | rd
 | fl
 | ef
 | mu
def zb : Op → CL
 | .move _ => .pu
 | .assign _ => .pu
 | .fieldAddr .. => .pu
 | .extract .. => .pu
 | .nilCheck _ => .pu
 | .load .. => .rd
 | .lookup .. => .rd
 | .convert .. => .rd
 | .binOp .. => .rd
 | .unOp .. => .rd
 | .index .. => .rd
 | .indexAddr .. => .rd
 | .field .. => .rd
 | .slice .. => .rd
 | .typeAssert .. => .rd
 | .pick .. => .rd
 | .build .. => .rd
 | .makeInterface .. => .rd
 | .makeFunc .. => .rd
 | .call { callee := .builtin .len, .. } => .rd
 | .alloc _ => .fl
 | .box .. => .fl
 | .buildSlice .. => .fl
 | .makeMap .. => .fl
 | _ => .ef
inductive PM where
 | none
 | mk (i d : Nat)
def brv (t : Nat) (d : Nat) : CL := bc (Nat.beq t d) .mu .ef
def bev (d : Nat) : Op → CL
 | .insert _ (.tmp t) _ _ => brv t d
 | op => zb op
def cls (pm : PM) (op : Op) : CL := PM.rec (motive := fun _ => Op → CL) zb (fun _ d => bev d) pm op
def isP (pm : PM) (j : Nat) : Bool := match pm with
 | .none => false
 | .mk i _ => Nat.beq i j
def noP : PM → Bool
 | .none => true
 | .mk _ _ => false
def bpa : Op → Bool
 | .makeMap _ _ => true
 | _ => false
def a6n : List Oper → Nat → PM
 | [], _ => .none
 | o :: l, i => bc (bpa o.op) (match o.dst with
   | some d => .mk i d
   | none => a6n l (Nat.succ i)) (a6n l (Nat.succ i))
inductive PV where
 | none
 | mk (k : K) (es : List (AV × AV))
def als (a b : AV) : Bool := match oq a b, oq b a with
 | some false, some false => true
 | _, _ => false
def aa0 (a : AV) : List (AV × AV) → Bool
 | [] => true
 | e :: l => bc (als a e.1) (aa0 a l) false
def aut : List (AV × AV) → Bool
 | [] => true
 | e :: l => bc (aa0 e.1 l) (aut l) false
def ba3 : PV → Bool
 | .none => true
 | .mk _ es => aut es
def azs (k : K) : AV → Bool
 | .map b => K.beq b k
 | _ => false
def a8g (p : PV) (w : W) : W := match p with
 | .none => w
 | .mk k es => wset k (.umap es) w
def a9l : CL → Bool
 | .ef => true
 | _ => false
def btr : CL → Bool
 | .fl => true
 | _ => false
def a7x (p : Nat → Bool) : Nat → Bool
 | 0 => true
 | n + 1 => bc (p n) (a7x p n) false
def ot (pm : PM) : List Oper → Nat
 | [] => 0
 | o :: l => bc (btr (cls pm o.op)) (ot pm l + 1) (ot pm l)
def aef (ops : Array Oper) : Nat := bq ops.toList
def zz (pm : PM) : List Oper → Nat → List Nat
 | [], _ => []
 | o :: l, j => bc (a9l (cls pm o.op)) (j :: zz pm l (Nat.succ j)) (zz pm l (Nat.succ j))
def boy (pm : PM) (ops : Array Oper) : List Nat := zz pm ops.toList 0
def asn (p : Nat → Bool) : List Nat → Bool
 | [] => true
 | x :: l => bc (p x) (asn p l) false
def afv (pm : PM) (ops : Array Oper) (j e : Nat) : Bool :=
 asn (fun x => bc (bc (cz ops x j) (Nat.blt x e) true) (bc (Nat.blt x e) (alf (cz ops j x)) true) false) (boy pm ops)
def vo (pm : PM) (ops : Array Oper) (j : Nat) : Bool :=
 alf (asn (fun x => bc (bc (Nat.blt x j) (cz ops x j) true) (bc (Nat.blt j x) (cz ops j x) true) false) (boy pm ops))
def aen : List Operand → List Nat
 | [] => []
 | .tmp t :: l => t :: aen l
 | _ :: l => aen l
def oc (all : List Oper) (o : Oper) : List Nat :=
 aen o.op.operands.toList ++ (o.dst.toList ++ (match o.guard with
  | some g => ((nth all g.1).bind (·.dst)).toList
  | none => []))
def abe (j : Nat) : List Edge → Bool
 | [] => true
 | e :: l => bc (bc (Region.binds .any e) (Nat.blt e.on j) true) (abe j l) false
def axw (Wm b : Nat) : List Nat → Bool
 | [] => true
 | t :: l => bc (bbu (fld Wm t) b) (axw Wm b l) false
def bsd (Rm b : Nat) : Option Nat → Bool
 | none => true
 | some d => bbu (fld Rm d) b
def brn (Wm j : Nat) : Option Nat → Nat
 | none => Wm
 | some d => ati Wm d (Nat.shiftLeft 1 j)
def boa (j : Nat) : List Nat → Nat → Nat
 | [], Rm => Rm
 | t :: l, Rm => boa j l (ati Rm t (Nat.shiftLeft 1 j))
def aze (pm : PM) (all : List Oper) (B : Nat) : List Oper → Nat → Nat → Nat → Nat → Bool
 | [], _, _, _, _ => true
 | o :: os, j, Wm, Rm, Em =>
   bc (abe j o.after.toList) (bc (axw Wm (fld B j) (oc all o)) (bc (bsd Rm (fld B j) o.dst) (bc (bc (a9l (cls pm o.op)) (bbu Em (fld B j)) true)
    (aze pm all B os (Nat.succ j) (brn Wm j o.dst) (boa j (oc all o) Rm) (bc (a9l (cls pm o.op)) (Nat.lor Em (Nat.shiftLeft 1 j)) Em)) false) false) false) false
def zy (pm : PM) (ops : Array Oper) : Bool := bc (Nat.ble (aef ops) 256) (aze pm ops.toList (ahw ops) ops.toList 0 0 0 0) false
def dummy : Oper := { dst := none, op := .move (.func 0), type := 0, pos := "", after := #[], guard := none }
def ma (B p : Nat) : List Oper → Nat → List Oper
 | [], _ => []
 | o :: l, j => bc (tb (fld B j) p) dummy o :: ma B p l (Nat.succ j)
def ee (ops : Array Oper) (p : Nat) : Array Oper := (ma (ahw ops) p ops.toList 0).toArray
def ai7 (ops : Array Oper) (p : Nat) (o : Oper) : Bool := match o.guard with
 | some g => alf (cz ops p g.1)
 | none => true
def bmb (ops opsT : Array Oper) (p j : Nat) : Bool := bc (cz ops p j) true (bc (Nat.beq (dc ops j) (dc opsT j)) (bc (bc (vo .none opsT j) (vo .none ops j) true) (match nth ops.toList j with
 | some o => ai7 ops p o
 | none => true) false) false)
def bay (ops opsT : Array Oper) (p : Nat) : Bool := bc (zy .none opsT) (bc (a7x (fun j => alf (cz ops p j)) (Nat.succ p)) (a7x (bmb ops opsT p) (aef ops)) false) false
def zv (nt : Nat) : List Oper → F → F
 | [], τ => τ
 | o :: l, τ => zv nt l (qe nt o.dst .top τ)
inductive PF where
 | mk (i : Nat) (k : K) (o : AObj)
inductive RC where
 | mk (i : Nat) (op : Op) (τ : F) (v : AV)
inductive DS where
 | mk (τ : F) (w : W) (fk : K) (pend : List PF) (hist : List (Nat × W)) (recs : List RC) (pv : PV)
inductive DX where
 | ok (s : DS)
 | pan (ch : List PE) (w : W) (p : Nat) (s : DS)
 | no (c f : Nat)
def dl (m : Nat) : List PF → W → W
 | [], w => w
 | .mk i k o :: l, w => bc (tb m i) (wset k o (dl m l w)) (dl m l w)
def wh (m : Nat) : List PF → List PF
 | [] => []
 | .mk i k o :: l => bc (tb m i) (wh m l) (.mk i k o :: wh m l)
def aic : List PF → W → W
 | [], w => w
 | .mk _ k o :: l, w => wset k o (aic l w)
def hOf : W → H4 | .mk h _ => h
def a8f (o : Oper) (nt fn : Nat) : DS → DX
 | .mk τ w fk pend hist recs pv => match gD o.op τ w with
   | .val v _ => .ok (.mk (qe nt o.dst v τ) w fk pend hist recs pv)
   | .no c => .no c fn
   | _ => .no 230 fn
def a8h (pm : PM) (ops : Array Oper) (i : Nat) (o : Oper) (nt fn : Nat) : DS → DX
 | .mk τ w fk pend hist recs pv => match gD o.op τ w with
   | .val v _ => .ok (.mk (qe nt o.dst v τ) w fk pend hist (bc (vo pm ops i) (.mk i o.op τ v :: recs) recs) pv)
   | .no c => .no c fn
   | _ => .no 231 fn
def a9m : AObj → Bool
 | .map [] => true
 | _ => false
def awc (pm : PM) (i : Nat) (o : Oper) (nt fn : Nat) : DS → DX
 | .mk τ w fk pend hist recs pv => match gD o.op τ (.mk (hOf w) fk) with
   | .val v (.mk h' _) => bc (isP pm i)
      (bc (a9m (ae fk h')) (.ok (.mk (qe nt o.dst v τ) w fk.succ pend hist recs (.mk fk []))) (.no 239 fn))
      (.ok (.mk (qe nt o.dst v τ) w fk.succ (.mk i fk (ae fk h') :: pend) hist recs pv))
   | .no c => .no c fn
   | _ => .no 232 fn
def dMu (o : Oper) (nt fn : Nat) : DS → DX
 | .mk τ w fk pend hist recs (.mk k es) => (match o.op, o.guard with
   | .insert t m x y, none => bc (mj t && amh t (evX x τ) && azs k (evX m τ))
      (.ok (.mk (qe nt o.dst gu τ) w fk pend hist recs (.mk k (es ++ [(evX x τ, evX y τ)])))) (.no 229 fn)
   | _, _ => .no 228 fn)
 | _ => .no 227 fn
def be4 (pm : PM) (ih : Ih) (ops : Array Oper) (i : Nat) (o : Oper) (nt fn : Nat) : DS → DX
 | .mk τ w fk pend hist recs pv => match gD o.op τ (dl (dc ops i) pend w) with
   | .val v w' => .ok (.mk (qe nt o.dst v τ) w' fk (wh (dc ops i) pend) ((i, w) :: hist) recs pv)
   | .call f vs w' => (match enter ih f vs w' with
     | .ret v w'' => .ok (.mk (qe nt o.dst v τ) w'' fk (wh (dc ops i) pend) ((i, w) :: hist) recs pv)
     | .no c f => .no c f
     | .pan ch w'' => bc (noP pm) (.pan ch w'' i (.mk (qe nt o.dst .top τ) (dl (dc ops i) pend w) fk (wh (dc ops i) pend) ((i, w) :: hist) recs pv)) (.no 233 fn))
   | .no c => .no c fn
   | _ => .no 234 fn
def dGo (pm : PM) (ih : Ih) (ops : Array Oper) (i : Nat) (o : Oper) (nt fn : Nat) (s : DS) : DX := match cls pm o.op with
 | .pu => a8f o nt fn s
 | .rd => a8h pm ops i o nt fn s
 | .fl => awc pm i o nt fn s
 | .ef => be4 pm ih ops i o nt fn s
 | .mu => dMu o nt fn s
def a8j (pm : PM) (ops : Array Oper) (i : Nat) (o : Oper) (nt : Nat) : DS → DX
 | .mk τ w fk pend hist recs pv => match cls pm o.op with
   | .ef => .ok (.mk (qe nt o.dst gu τ) (dl (dc ops i) pend w) fk (wh (dc ops i) pend) ((i, w) :: hist) recs pv)
   | .mu => .no 226 0
   | _ => .ok (.mk (qe nt o.dst gu τ) w fk pend hist recs pv)
def DS.τ : DS → F | .mk τ .. => τ
def DS.w : DS → W | .mk _ w .. => w
def DS.fk : DS → K | .mk _ _ fk .. => fk
def DS.pend : DS → List PF | .mk _ _ _ p .. => p
def DS.hist : DS → List (Nat × W) | .mk _ _ _ _ h .. => h
def DS.recs : DS → List RC | .mk _ _ _ _ _ r _ => r
def DS.pv : DS → PV | .mk _ _ _ _ _ _ p => p
def ra (pm : PM) (ih : Ih) (ops : Array Oper) (i : Nat) (o : Oper) (nt fn : Nat) (s : DS) : DX := match o.guard with
 | none => dGo pm ih ops i o nt fn s
 | some g => match kw g ops.toList s.τ with
   | some true => dGo pm ih ops i o nt fn s
   | some false => a8j pm ops i o nt s
   | none => .no 235 fn
def a8e (r : DX) (k : DS → DX) : DX := match r with
 | .ok s => k s
 | .pan ch w p s => .pan ch w p s
 | .no c f => .no c f
def aie (pm : PM) (ih : Ih) (ops : Array Oper) (nt fn : Nat) : List Oper → Nat → DS → DX
 | [], _, s => .ok s
 | o :: l, i, s => a8e (ra pm ih ops i o nt fn s) (aie pm ih ops nt fn l (i + 1))
def bba (op : Op) (τ : F) (v : AV) (w : W) : Bool := match gD op τ w with
 | .val v' _ => bmq v v'
 | _ => false
def a8i (pm : PM) (ops : Array Oper) : RC → List (Nat × W) → Bool
 | _, [] => true
 | .mk i op τ v, (e, w) :: l => bc (bc (afv pm ops i e) (bba op τ v w) true) (a8i pm ops (.mk i op τ v) l) false
def ze (pm : PM) (ops : Array Oper) : List RC → List (Nat × W) → Bool
 | [], _ => true
 | r :: l, h => bc (a8i pm ops r h) (ze pm ops l h) false
def as4 (ops opsT : Array Oper) (fn nt : Nat) (τ0 : F) (ds : List AD) (um : UM) (ch : List PE) (w2 : W) : DX → R
 | .ok (.mk _ w _ _ hist recs _) => bc (ze .none opsT recs ((aef ops, w) :: hist)) (.p ch (.mk (zv nt ops.toList τ0) ds um w2)) (.no 236 fn)
 | .pan _ _ _ _ => .no 225 fn
 | .no c f => .no c f
def azd (ih : Ih) (ops opsT : Array Oper) (fn nt : Nat) (τ0 : F) (ds : List AD) (um : UM) (ch : List PE) (w2 : W) (p : Nat) (s : DS) : R :=
 bc (bay ops opsT p) (as4 ops opsT fn nt τ0 ds um ch w2 (aie .none ih opsT nt fn (opsT.toList.drop (Nat.succ p)) (Nat.succ p) s)) (.no 233 fn)
def bos (pm : PM) (ih : Ih) (ops : Array Oper) (fn nt : Nat) (τ0 : F) (ds : List AD) (um : UM) : DX → R
 | .ok (.mk τ w _ pend hist recs pv) => bc (ze pm ops recs ((aef ops, w) :: hist) && ba3 pv) (.n (.mk τ ds um (a8g pv (aic pend w)))) (.no 236 fn)
 | .pan ch w2 p s => azd ih ops (ee ops p) fn nt τ0 ds um ch w2 p s
 | .no c f => .no c f
def au0 : Nat → K → Option K
 | 0, k => some k
 | n + 1, k => bc k.isMax none (au0 n k.succ)
def aig (pm : PM) (ih : Ih) (ops : Array Oper) (nt fn : Nat) (τ : F) (h : H4) (nx : K) (ds : List AD) (um : UM) : Option K → R
 | some nx' => bos pm ih ops fn nt τ ds um (aie pm ih ops nt fn ops.toList 0 (.mk τ (.mk h nx') nx [] [] [] .none))
 | none => .no 237 fn
def ahz (pm : PM) (ops : Array Oper) (ih : Ih) (C : Ctx) : FSt → R
 | .mk τ ds um (.mk h nx) => bc (zy pm ops) (aig pm ih ops C.nt C.fn τ h nx ds um (au0 (ot pm ops.toList) nx)) (.no 238 C.fn)
def ay8 (_ : Nat) (ops : Array Oper) (ih : Ih) (C : Ctx) (S : FSt) : R := bc (zy .none ops) (ahz .none ops ih C S) (ahz (a6n ops.toList 0) ops ih C S)
def boi (_ : Nat) (ops : Array Oper) (ih : Ih) (C : Ctx) (S : FSt) : R := tf ops.toList ih ops.toList C S
def bep (id : Nat) (ops : Array Oper) (draw : Bool) : Ih → Ctx → FSt → R := Bool.rec (motive := fun _ => Nat → Array Oper → Ih → Ctx → FSt → R) boi ay8 draw id ops
def aj8 (r : R) : Ih → Code → Ctx → R := R.rec (motive := fun _ => Ih → Code → Ctx → R)
 (fun S ih b C => ih b C S) (fun id S _ _ _ => .x id S) (fun S _ _ _ => .r S) (fun ch S _ _ _ => .p ch S) (fun c f _ _ _ => .no c f) r
abbrev Rh := Ih → Ctx → FSt → R
def bzx (a b : Code) (_ _ : Rh) (ih : Ih) (C : Ctx) (S : FSt) : R := aj8 (ih a C S) ih b C
def a8a (v : AV) (x y : Code) (ih : Ih) (C : Ctx) (S : FSt) : R := match v with
 | .bool b => ih (bc b x y) C S
 | _ => .no 214 C.fn
def FSt.τ (S : FSt) : F := FSt.rec (motive := fun _ => F) (fun τ _ _ _ => τ) S
def brs (c : Operand) (x y : Code) (_ _ : Rh) (ih : Ih) (C : Ctx) (S : FSt) : R := a8a (evX c S.τ) x y ih C S
def av2 (r : R) : Nat → R := R.rec (motive := fun _ => Nat → R)
 (fun S _ => .n S) (fun id' S id => bc (Nat.beq id' id) (.n S) (.x id' S)) (fun S _ => .r S) (fun ch S _ => .p ch S) (fun c f _ => .no c f) r
def boh (id : Nat) (b : Code) (_ : Rh) (ih : Ih) (C : Ctx) (S : FSt) : R := av2 (ih b C S) id
def sh (b : Code) (ih : Ih) (C : Ctx) (S : FSt) : R := aj8 (ih b C S) ih (.loop b) C
def azy (o : Option R) : Code → Ih → Ctx → FSt → R := Option.rec (motive := fun _ => Code → Ih → Ctx → FSt → R) sh (fun r _ _ _ _ => r) o
def bru (b : Code) (_ : Rh) (ih : Ih) (C : Ctx) (S : FSt) : R := azy (ih.lp C b S) b ih C S
def a9k : LoopState → Bool
 | .busy => true
 | _ => false
def ba5 (τ : F) (ds : List AD) (um : UM) (kl : K) (r : CR) : R := match r with
 | .ret _ w => (match cu kl w with
   | .loop st pend fn nt τ' ps x y kd => bc (a9k st) (.no 248 fn) (match pend with
     | none => .n (.mk τ ds um (wset kl (.loop .exhausted pend fn nt τ' ps x y kd) w))
     | some (.exit id) => .x id (.mk τ ds um (wset kl (.loop .exhausted pend fn nt τ' ps x y kd) w))
     | some .ret => .r (.mk τ ds um (wset kl (.loop .exhausted pend fn nt τ' ps x y kd) w))
     | _ => .no 249 fn)
   | _ => .no 250 0)
 | .pan ch w => .p ch (.mk τ ds um w)
 | .no c f => .no c f
def aj0 (ih : Ih) (fn : Nat) (τ : F) (ds : List AD) (um : UM) (kl : K) (r : OR) : R := match r with
 | .call g vs w => ba5 τ ds um kl (enter ih g vs w)
 | _ => .no 247 fn
def anj (f : Operand) (ps : Array Tmp) (x y : Code) (ih : Ih) (C : Ctx) (S : FSt) : R := match S, C.round with
 | .mk τ ds um (.mk h nx), none => bc nx.isMax (.no 246 0) (bc nx.succ.isMax (.no 246 1)
    (aj0 ih C.fn τ (.coll nx :: ds) um nx.succ (ae6 (evX f τ) [.func (.yield nx.succ.num) [] []] (.mk (b8 nx.succ (.loop .ready none C.fn C.nt τ ps.toList x y nx) (b8 nx (.deferred (some [])) h)) nx.succ.succ))))
 | _, _ => .no 246 2
def bne (ih : Ih) (c : Code) : Ctx → FSt → R := Code.rec (motive := fun _ => Rh)
 (fun _ _ S => .n S) bep bzx brs boh bru (fun f ps x y _ _ => anj f ps x y) (fun id _ _ S => .x id S)
 (fun _ _ _ C _ => .no 216 C.fn) (fun _ _ _ S => .n S) (fun _ _ C _ => .no 217 C.fn) (fun _ _ S => .r S) (fun _ _ C _ => .no 218 C.fn) c ih
abbrev ahr := FuncId → List AV → W → Option CR
abbrev vk := Ctx → Code → FSt → Option R
def bpu (_ : Ctx) (_ : Code) (_ : FSt) : Option R := none
def b1b (H : ahr) (L : vk) (n : Nat) : Code → Ctx → FSt → R := Nat.rec (motive := fun _ => Code → Ctx → FSt → R) (fun _ _ _ => .no 219 0) (fun _ r => bne (Ih.mk H r L)) n
def afo (H : ahr) (L : vk) (n : Nat) : Ih := Ih.mk H (b1b H L n) L
def run (H : ahr) (n : Nat) : Ih := afo H bpu n
def aw0 (_ : FuncId) (_ : List AV) (_ : W) : Option CR := none
inductive HE where
 | mk (f : FuncId) (vs : List AV) (v : AV)
def w0 : W := .mk ai8 (K.of 256)
end
end Go.Ev
