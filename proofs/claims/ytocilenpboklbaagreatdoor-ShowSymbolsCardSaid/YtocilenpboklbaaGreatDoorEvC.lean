import Derived.Test.YtocilenpboklbaaGreatDoorEvFx
set_option linter.all false
namespace Go.Ev
noncomputable section
inductive PE where
 | mk (v : AV) (rec : Bool)
inductive UM where
 | none
 | ret
 | pan (ch : List PE)
inductive FSt where
 | mk (τ : F) (ds : List AD) (um : UM) (w : W)
inductive Ctx where
 | mk (fn nt : Nat) (dfr : Bool) (round : Option K)
def Ctx.nt (C : Ctx) : Nat := Ctx.rec (motive := fun _ => Nat) (fun _ nt _ _ => nt) C
def Ctx.fn (C : Ctx) : Nat := Ctx.rec (motive := fun _ => Nat) (fun fn _ _ _ => fn) C
def Ctx.dfr (C : Ctx) : Bool := Ctx.rec (motive := fun _ => Bool) (fun _ _ d _ => d) C
def Ctx.round (C : Ctx) : Option K := Ctx.rec (motive := fun _ => Option K) (fun _ _ _ r => r) C
inductive R where
 | n (S : FSt)
 | x (id : Nat) (S : FSt)
 | r (S : FSt)
 | p (ch : List PE) (S : FSt)
 | no (c f : Nat)
inductive CR where
 | ret (v : AV) (w : W)
 | pan (ch : List PE) (w : W)
 | no (c f : Nat)
structure Ih where
 hook : FuncId → List AV → W → Option CR
 run : Code → Ctx → FSt → R
 lp : Ctx → Code → FSt → Option R
instance : CoeFun Ih (fun _ => Code → Ctx → FSt → R) := ⟨Ih.run⟩
abbrev Oh := Ih → List Oper → Ctx → FSt → R
def aof (τ : F) (w : W) : ResultVar → Option AV
 | .tmp t => some (gn t τ)
 | .cell a t => match gn a τ with
   | .ptr b o => (match ub t (.ptr b o) w with
     | .val v _ => some v
     | _ => none)
   | _ => none
def aji (τ : F) (w : W) : List ResultVar → Option (List AV)
 | [] => some []
 | r :: rs => (aof τ w r).bind fun v => (aji τ w rs).map (v :: ·)
def bms : List AV → AV
 | [v] => v
 | vs => .tuple vs
def results (fn : Func) (τ : F) (w : W) : CR := match aji τ w fn.results.toList with
 | some vs => .ret (bms vs) w
 | none => .no 200 0
def settle : UM → UM
 | .pan (.mk _ true :: _) => .ret
 | u => u
def raised (u : UM) (ch : List PE) : UM := match u with
 | .pan old => .pan (ch ++ old)
 | _ => .pan ch
inductive DR where
 | ret (u : UM) (w : W)
 | pan (ch : List PE) (u : UM) (w : W)
 | no (c f : Nat)
def vi (f : FuncId) : Option (Func × Code) := match akr f with
 | some fn => match fn.body with
   | some c => bc (Nat.ble fn.ntmps 512) (some (fn, c)) none
   | none => none
 | none => none
def ajq (ih : Ih) (fn : Func) (c : Code) (f : FuncId) (vs : List AV) (dfr : Bool) (u : UM) (w : W) : R :=
 bc (Nat.ble (br vs) fn.ntmps) (ih c (.mk f fn.ntmps dfr none) (.mk (kw vs 0 kc) [] u w)) (.no 201 f)
def adq (fn : Func) (r : R) : DR := match r with
 | .n (.mk τ [] u w) | .r (.mk τ [] u w) => (match results fn τ w with | .ret _ _ => .ret u w | _ => .no 202 0)
 | .p ch (.mk _ [] u w) => .pan ch u w
 | .no c f => .no c f
 | _ => .no 203 0
def ah4 (ih : Ih) (f : FuncId) (vs : List AV) (u : UM) (w : W) : DR := match vi f with
 | some (fn, c) => adq fn (ajq ih fn c f vs true u w)
 | none => .no 204 f
def og (ih : Ih) (fn : Func) (τ : F) : List AD → UM → W → CR
 | [], .ret, w => results fn τ w
 | [], .pan ch, w => .pan ch w
 | [], .none, _ => .no 205 0
 | .call (.func f) cap args :: ds, u, w => (match tw f (args ++ cap) w with
   | .call f vs w => (match ah4 ih f vs u w with
     | .ret u' w' => og ih fn τ ds (settle u') w'
     | .pan ch u' w' => og ih fn τ ds (raised u' ch) w'
     | .no c f => .no c f)
   | _ => .no 206 0)
 | .coll b :: ds, u, w => (match cx b w with
   | .deferred (some []) => og ih fn τ ds u (wset b (.deferred none) w)
   | _ => .no 206 1)
 | _ :: _, _, _ => .no 207 0
def a8k (ih : Ih) (fn : Func) (r : R) : CR := match r with
 | .n (.mk τ ds _ w) | .r (.mk τ ds _ w) => og ih fn τ ds .ret w
 | .p ch (.mk τ ds _ w) => og ih fn τ ds (.pan ch) w
 | .no c f => .no c f
 | _ => .no 208 0
def a7i (ih : Ih) (f : FuncId) (vs : List AV) (w : W) (b : Func × Code) : CR := a8k ih b.1 (ajq ih b.1 b.2 f vs false .none w)
def am1 (ih : Ih) (f : FuncId) (vs : List AV) (w : W) : CR := match vi f with
 | some b => a7i ih f vs w b
 | none => .no 209 f
def bk7 : AV → Bool
 | .bool _ => true
 | .int _ _ => true
 | .str _ _ => true
 | .nilPtr => true
 | .nilSlice => true
 | .nilMap => true
 | .nilIface => true
 | .nilFunc => true
 | _ => false
def asn : List AV → Bool
 | [] => true
 | v :: l => bc (bk7 v) (asn l) false
def od : List SA → List SA → Bool
 | [], [] => true
 | .mk lt a b r :: l, .mk lt' a' b' r' :: m => bc (y6 lt lt') (bc (fw a a') (bc (fw b b') (bc (y6 r r') (od l m) false) false) false) false
 | _, _ => false
def an7 : List (Nat × Nat) → List (Nat × Nat) → Bool
 | [], [] => true
 | p :: l, q :: m => bc (Nat.beq p.1 q.1) (bc (Nat.beq p.2 q.2) (an7 l m) false) false
 | _, _ => false
def avn : GV → GV → Bool
 | .str g A, .str g' A' => bc (mt g g') (od A A') false
 | .sl b es n A, .sl b' es' n' A' => bc (K.beq b b') (bc (Nat.beq es es') (bc (fw n n') (od A A') false) false) false
 | .ptr b es i o A, .ptr b' es' i' o' A' => bc (K.beq b b') (bc (Nat.beq es es') (bc (fw i i') (bc (Nat.beq o o') (od A A') false) false) false) false
 | .sr b o n A, .sr b' o' n' A' => bc (K.beq b b') (bc (fw o o') (bc (fw n n') (od A A') false) false) false
 | .pr b o i A, .pr b' o' i' A' => bc (K.beq b b') (bc (fw o o') (bc (fw i i') (od A A') false) false) false
 | _, _ => false
def az3 : AV → AV → Bool
 | .bool a, .bool b => (match a, b with | true, true => true | false, false => true | _, _ => false)
 | .int k m, .int l n => bc (qe k l) (adm m n) false
 | .str l n, .str l' n' => sEq l n l' n'
 | .nilPtr, .nilPtr => true
 | .ptr b o, .ptr b' o' => bc (K.beq b b') (Nat.beq o o') false
 | .nilSlice, .nilSlice => true
 | .slice b o len cap none, .slice b' o' len' cap' none => bc (K.beq b b') (bc (Nat.beq o o') (bc (Nat.beq len len') (Nat.beq cap cap') false) false) false
 | .slice b o len cap (some e), .slice b' o' len' cap' (some e') => bc (K.beq b b') (bc (Nat.beq o o') (bc (Nat.beq len len') (bc (Nat.beq cap cap') (Nat.beq e e') false) false) false) false
 | .nilMap, .nilMap => true
 | .map b, .map b' => K.beq b b'
 | .nilFunc, .nilFunc => true
 | .nilIface, .nilIface => true
 | .wse b, .wse b' => K.beq b b'
 | .sym k e A, .sym k' e' A' => bc (qe k k') (bc (fw e e') (od A A') false) false
 | .sx c e A, .sx c' e' A' => bc (Nat.beq c c') (bc (fw e e') (an7 A A') false) false
 | .gv x, .gv y => avn x y
 | .wsl b k d n, .wsl b' k' d' n' => bc (K.beq b b') (bc (K.beq k k') (bc (Nat.beq d d') (Nat.beq n n') false) false) false
 | .wptr b k i, .wptr b' k' i' => bc (K.beq b b') (bc (K.beq k k') (Nat.beq i i') false) false
 | .esl, .esl => true
 | .top, .top => true
 | _, _ => false
def zr (f : AV → AV → Bool) : List AV → List AV → Bool
 | [], [] => true
 | a :: l, b :: m => bc (f a b) (zr f l m) false
 | _, _ => false
def a7w : Fn → Fn → Bool
 | .func f, .func g => Nat.beq f g
 | _, _ => false
def akl : Nat → AV → AV → Bool
 | 0, _, _ => false
 | n + 1, a, b => match a, b with
   | .agg l, .agg m => zr (akl n) l m
   | .tuple l, .tuple m => zr (akl n) l m
   | .iface t x, .iface t' y => bc (Nat.beq t t') (akl n x y) false
   | .func f x y, .func g x' y' => bc (a7w f g) (bc (zr (akl n) x x') (zr (akl n) y y') false) false
   | a, b => az3 a b
def bjm (a b : AV) : Bool := akl 8 a b
inductive LE where
 | mk (g : Nat) (cells : List AV)
abbrev ctA : List AV := [.int .u8 128, .int .u8 191, .int .u8 160, .int .u8 191, .int .u8 128, .int .u8 159, .int .u8 144, .int .u8 191, .int .u8 128, .int .u8 143, .int .u8 0, .int .u8 0, .int .u8 0, .int .u8 0, .int .u8 0, .int .u8 0, .int .u8 0, .int .u8 0, .int .u8 0, .int .u8 0, .int .u8 0, .int .u8 0, .int .u8 0, .int .u8 0, .int .u8 0, .int .u8 0, .int .u8 0, .int .u8 0, .int .u8 0, .int .u8 0, .int .u8 0, .int .u8 0]
abbrev ctB : List AV := [.int .u8 240, .int .u8 240, .int .u8 240, .int .u8 240, .int .u8 240, .int .u8 240, .int .u8 240, .int .u8 240, .int .u8 240, .int .u8 240, .int .u8 240, .int .u8 240, .int .u8 240, .int .u8 240, .int .u8 240, .int .u8 240, .int .u8 240, .int .u8 240, .int .u8 240, .int .u8 240, .int .u8 240, .int .u8 240, .int .u8 240, .int .u8 240, .int .u8 240, .int .u8 240, .int .u8 240, .int .u8 240, .int .u8 240, .int .u8 240, .int .u8 240, .int .u8 240, .int .u8 240, .int .u8 240, .int .u8 240, .int .u8 240, .int .u8 240, .int .u8 240, .int .u8 240, .int .u8 240, .int .u8 240, .int .u8 240, .int .u8 240, .int .u8 240, .int .u8 240, .int .u8 240, .int .u8 240, .int .u8 240, .int .u8 240, .int .u8 240, .int .u8 240, .int .u8 240, .int .u8 240, .int .u8 240, .int .u8 240, .int .u8 240, .int .u8 240, .int .u8 240, .int .u8 240, .int .u8 240, .int .u8 240, .int .u8 240, .int .u8 240, .int .u8 240, .int .u8 240, .int .u8 240, .int .u8 240, .int .u8 240, .int .u8 240, .int .u8 240, .int .u8 240, .int .u8 240, .int .u8 240, .int .u8 240, .int .u8 240, .int .u8 240, .int .u8 240, .int .u8 240, .int .u8 240, .int .u8 240, .int .u8 240, .int .u8 240, .int .u8 240, .int .u8 240, .int .u8 240, .int .u8 240, .int .u8 240, .int .u8 240, .int .u8 240, .int .u8 240, .int .u8 240, .int .u8 240, .int .u8 240, .int .u8 240, .int .u8 240, .int .u8 240, .int .u8 240, .int .u8 240, .int .u8 240, .int .u8 240, .int .u8 240, .int .u8 240, .int .u8 240, .int .u8 240, .int .u8 240, .int .u8 240, .int .u8 240, .int .u8 240, .int .u8 240, .int .u8 240, .int .u8 240, .int .u8 240, .int .u8 240, .int .u8 240, .int .u8 240, .int .u8 240, .int .u8 240, .int .u8 240, .int .u8 240, .int .u8 240, .int .u8 240, .int .u8 240, .int .u8 240, .int .u8 240, .int .u8 240, .int .u8 240, .int .u8 240, .int .u8 240, .int .u8 241, .int .u8 241, .int .u8 241, .int .u8 241, .int .u8 241, .int .u8 241, .int .u8 241, .int .u8 241, .int .u8 241, .int .u8 241, .int .u8 241, .int .u8 241, .int .u8 241, .int .u8 241, .int .u8 241, .int .u8 241, .int .u8 241, .int .u8 241, .int .u8 241, .int .u8 241, .int .u8 241, .int .u8 241, .int .u8 241, .int .u8 241, .int .u8 241, .int .u8 241, .int .u8 241, .int .u8 241, .int .u8 241, .int .u8 241, .int .u8 241, .int .u8 241, .int .u8 241, .int .u8 241, .int .u8 241, .int .u8 241, .int .u8 241, .int .u8 241, .int .u8 241, .int .u8 241, .int .u8 241, .int .u8 241, .int .u8 241, .int .u8 241, .int .u8 241, .int .u8 241, .int .u8 241, .int .u8 241, .int .u8 241, .int .u8 241, .int .u8 241, .int .u8 241, .int .u8 241, .int .u8 241, .int .u8 241, .int .u8 241, .int .u8 241, .int .u8 241, .int .u8 241, .int .u8 241, .int .u8 241, .int .u8 241, .int .u8 241, .int .u8 241, .int .u8 241, .int .u8 241, .int .u8 2, .int .u8 2, .int .u8 2, .int .u8 2, .int .u8 2, .int .u8 2, .int .u8 2, .int .u8 2, .int .u8 2, .int .u8 2, .int .u8 2, .int .u8 2, .int .u8 2, .int .u8 2, .int .u8 2, .int .u8 2, .int .u8 2, .int .u8 2, .int .u8 2, .int .u8 2, .int .u8 2, .int .u8 2, .int .u8 2, .int .u8 2, .int .u8 2, .int .u8 2, .int .u8 2, .int .u8 2, .int .u8 2, .int .u8 2, .int .u8 19, .int .u8 3, .int .u8 3, .int .u8 3, .int .u8 3, .int .u8 3, .int .u8 3, .int .u8 3, .int .u8 3, .int .u8 3, .int .u8 3, .int .u8 3, .int .u8 3, .int .u8 35, .int .u8 3, .int .u8 3, .int .u8 52, .int .u8 4, .int .u8 4, .int .u8 4, .int .u8 68, .int .u8 241, .int .u8 241, .int .u8 241, .int .u8 241, .int .u8 241, .int .u8 241, .int .u8 241, .int .u8 241, .int .u8 241, .int .u8 241, .int .u8 241]
def laidL : List LE := [.mk 1 ctA, .mk 0 ctB, .mk 3 [.int .u64 1, .int .u64 10, .int .u64 100, .int .u64 1000, .int .u64 10000, .int .u64 100000, .int .u64 1000000, .int .u64 10000000, .int .u64 100000000, .int .u64 1000000000, .int .u64 10000000000, .int .u64 100000000000, .int .u64 1000000000000, .int .u64 10000000000000, .int .u64 100000000000000, .int .u64 1000000000000000, .int .u64 10000000000000000, .int .u64 100000000000000000, .int .u64 1000000000000000000, .int .u64 10000000000000000000]]
def qf : List LE → W → Bool
 | [], _ => true
 | .mk g cs :: l, w => (match cx (K.of g) w with
   | .ro t _ _ => bc (Nat.beq t (Nat.succ g)) (qf l w) false
   | _ => false)
def ma : List LE → H4
 | [] => ain
 | .mk g cs :: l => ca (K.of g) (.ro (Nat.succ g) (br cs) (me cs 0 (jk (br cs)))) (ma l)
def td : List LE → Bool
 | [] => true
 | .mk g cs :: l => bc (Nat.ble g 255 && asn cs && Nat.ble (br cs) 65536) (td l) false
def wS : W := .mk (ma laidL) (K.of 256)
def bpz (o : Option CR) : Ih → FuncId → List AV → W → CR := Option.rec (motive := fun _ => Ih → FuncId → List AV → W → CR) am1 (fun r _ _ _ _ => r) o
def enter (ih : Ih) (f : FuncId) (vs : List AV) (w : W) : CR := bpz (ih.hook f vs w) ih f vs w
def yz (nt : Nat) : List Nat → List AV → F → F
 | t :: ts, v :: vs, τ => yz nt ts vs (alh nt t v τ)
 | _, _, τ => τ
def ah3 (b : K) (jump : Option Code) (st : LoopState) (v : Bool) (w : W) : CR := match cx b w with
 | .loop _ _ fn nt τ ps x y kd => .ret (.bool v) (wset b (.loop st jump fn nt τ ps x y kd) w)
 | _ => .no 245 0
def akh (b : K) (fn : Nat) (r : R) : CR := match r with
 | .n (.mk _ [] _ w) => ah3 b none .ready true w
 | .x id (.mk _ [] _ w) => ah3 b (some (.exit id)) .done false w
 | .r (.mk _ [] _ w) => ah3 b (some .ret) .done false w
 | .p ch (.mk _ [] _ w) => bc (akr fn).isSome (.pan ch w) (.no 244 fn)
 | .no c f => .no c f
 | _ => .no 244 fn
def arj (ih : Ih) (b : K) (fn nt : Nat) (y : Code) (r : R) : CR := match r with
 | .n (.mk τ [] um w) => (match cx b w with
   | .loop .ready pend fn' nt' τ' ps x y' kd => akh b fn (ih y (.mk fn nt false (some b)) (.mk τ [] um (wset b (.loop .busy pend fn' nt' τ' ps x y' kd) w)))
   | _ => .no 242 fn)
 | .no c f => .no c f
 | _ => .no 243 fn
def xe (ih : Ih) (b : K) (vs : List AV) (w : W) : CR := match cx b w with
 | .loop _ _ fn nt τ ps x y _ => bc (Nat.beq (br ps) (br vs)) (arj ih b fn nt y (ih x (.mk fn nt false (some b)) (.mk (yz nt ps vs τ) [] .none w))) (.no 240 fn)
 | _ => .no 241 0
def ky (g : Nat × Bool) (all : List Oper) (τ : F) : Option Bool :=
 match (nth all g.1).bind (·.dst) with
 | some d => (match gn d τ with | .bool b => some (b == g.2) | .tuple _ => some false | _ => none)
 | none => none
def bq3 (v : AV) (w : W) (dst : Option Nat) (IH : Oh) (ih : Ih) (all : List Oper) (C : Ctx) (τ : F) (ds : List AD) (um : UM) : R :=
 IH ih all C (.mk (qd C.nt dst v τ) ds um w)
def crK (r : CR) : Option Nat → Oh → Ih → List Oper → Ctx → F → List AD → UM → R :=
 CR.rec (motive := fun _ => Option Nat → Oh → Ih → List Oper → Ctx → F → List AD → UM → R)
  bq3
  (fun ch w _ _ _ _ _ τ ds um => .p ch (.mk τ ds um w))
  (fun c f _ _ _ _ _ _ _ _ => .no c f) r
def bq1 (f : FuncId) (vs : List AV) (w : W) (dst : Option Nat) (IH : Oh) (ih : Ih) (all : List Oper) (C : Ctx) (τ : F) (ds : List AD) (um : UM) : R :=
 crK (enter ih f vs w) dst IH ih all C τ ds um
def bzt (b : K) (vs : List AV) (w : W) (dst : Option Nat) (IH : Oh) (ih : Ih) (all : List Oper) (C : Ctx) (τ : F) (ds : List AD) (um : UM) : R :=
 crK (xe ih b vs w) dst IH ih all C τ ds um
def bzs (v : AV) (w : W) (dst : Option Nat) (IH : Oh) (ih : Ih) (all : List Oper) (C : Ctx) (τ : F) (ds : List AD) (um : UM) : R := .p [.mk v false] (.mk τ ds um w)
def bzr (d : AD) (w : W) (dst : Option Nat) (IH : Oh) (ih : Ih) (all : List Oper) (C : Ctx) (τ : F) (ds : List AD) (um : UM) : R :=
 match C.round with
 | none => IH ih all C (.mk (qd C.nt dst gp τ) (d :: ds) um w)
 | some _ => .no 211 C.fn
def atr (w : W) (dst : Option Nat) (IH : Oh) (ih : Ih) (all : List Oper) (C : Ctx) (τ : F) (ds : List AD) (um : UM) : R :=
 match C.round, C.dfr, um with
 | some _, _, _ => .no 212 C.fn
 | none, true, .pan (.mk v false :: older) => IH ih all C (.mk (qd C.nt dst v τ) ds (.pan (.mk v true :: older)) w)
 | none, _, um => IH ih all C (.mk (qd C.nt dst .nilIface τ) ds um w)
def orK (r : OR) : Option Nat → Oh → Ih → List Oper → Ctx → F → List AD → UM → R :=
 OR.rec (motive := fun _ => Option Nat → Oh → Ih → List Oper → Ctx → F → List AD → UM → R)
  bq3 bq1 bzt bzs bzr atr (fun c _ _ _ _ C _ _ _ => .no c C.fn) r
def oGo (dst : Option Nat) (op : Op) (IH : Oh) (ih : Ih) (all : List Oper) (C : Ctx) (S : FSt) : R :=
 FSt.rec (motive := fun _ => Option Nat → Op → Oh → Ih → List Oper → Ctx → R)
  (fun τ ds um w dst op IH ih all C => orK (gOp op τ w) dst IH ih all C τ ds um) S dst op IH ih all C
def bi8 (dst : Option Nat) (IH : Oh) (ih : Ih) (all : List Oper) (C : Ctx) (S : FSt) : R :=
 FSt.rec (motive := fun _ => Option Nat → Oh → Ih → List Oper → Ctx → R)
  (fun τ ds um w dst IH ih all C => IH ih all C (.mk (qd C.nt dst gp τ) ds um w)) S dst IH ih all C
def bl6 (g : Nat × Bool) (dst : Option Nat) (op : Op) (IH : Oh) (ih : Ih) (all : List Oper) (C : Ctx) (S : FSt) : R :=
 match S with
 | .mk τ _ _ _ => match ky g all τ with
   | some true => oGo dst op IH ih all C S
   | some false => bi8 dst IH ih all C S
   | none => .no 213 C.fn
def an9 (g : Option (Nat × Bool)) : Option Nat → Op → Oh → Ih → List Oper → Ctx → FSt → R :=
 Option.rec (motive := fun _ => Option Nat → Op → Oh → Ih → List Oper → Ctx → FSt → R) oGo bl6 g
def bq2 (o : Oper) : Oh → Ih → List Oper → Ctx → FSt → R :=
 Oper.rec (motive := fun _ => Oh → Ih → List Oper → Ctx → FSt → R)
  (fun dst op _ _ _ g IH ih all C S => an9 g dst op IH ih all C S) o
def sy (l : List Oper) : Oh :=
 List.rec (motive := fun _ => Oh) (fun _ _ _ S => .n S) (fun o _ IH ih all C S => bq2 o IH ih all C S) l
def tb (m i : Nat) : Bool := Nat.beq (Nat.land (Nat.shiftRight m i) 1) 1
def ajy : Nat := 115792089237316195423570985008687907853269984665640564039457584007913129639936
def fld (M t : Nat) : Nat := Nat.mod (Nat.shiftRight M (Nat.mul t 256)) ajy
def asm (M t m : Nat) : Nat := Nat.lor M (Nat.shiftLeft (Nat.mod m ajy) (Nat.mul t 256))
def bao (x y : Nat) : Bool := Nat.beq (Nat.land x y) x
def ay7 : List Edge → Nat → Nat → Nat
 | [], _, s => s
 | e :: es, B, s => ay7 es B (bc (Region.binds .any e) (Nat.lor (Nat.lor s (Nat.shiftLeft 1 e.on)) (fld B e.on)) s)
def bkp : List Oper → Nat → Nat → Nat
 | [], _, B => B
 | o :: os, j, B => bkp os (Nat.succ j) (asm B j (ay7 o.after.toList B 0))
def ahg (ops : Array Oper) : Nat := bkp ops.toList 0 0
def db (ops : Array Oper) (j : Nat) : Nat := fld (ahg ops) j
def c7 (ops : Array Oper) (i j : Nat) : Bool := tb (db ops j) i
inductive CL where
 | pu
 | rd
 | fl
 | ef
 | mu
def yq : Op → CL
 | .move _ => .pu
 | .assign _ => .pu
 | .fieldAddr .. => .pu
 | .extract .. => .pu
 | .nilCheck _ => .pu
 | .load .. => .rd
 | .lookup .. => .rd
 | .convert .. => .rd
 | .binOp .. => .rd
 | .unOp .. => .rd
 | .index .. => .rd
 | .indexAddr .. => .rd
 | .field .. => .rd
 | .slice .. => .rd
 | .typeAssert .. => .rd
 | .pick .. => .rd
 | .build .. => .rd
 | .makeInterface .. => .rd
 | .makeFunc .. => .rd
 | .call { callee := .builtin .len, .. } => .rd
 | .alloc _ => .fl
 | .box .. => .fl
 | .buildSlice .. => .fl
 | .makeMap .. => .fl
 | _ => .ef
inductive PM where
 | none
 | mk (i d : Nat)
def bob (t : Nat) (d : Nat) : CL := bc (Nat.beq t d) .mu .ef
def bdn (d : Nat) : Op → CL
 | .insert _ (.tmp t) _ _ => bob t d
 | op => yq op
def cls (pm : PM) (op : Op) : CL := PM.rec (motive := fun _ => Op → CL) yq (fun _ d => bdn d) pm op
def isP (pm : PM) (j : Nat) : Bool := match pm with
 | .none => false
 | .mk i _ => Nat.beq i j
def noP : PM → Bool
 | .none => true
 | .mk _ _ => false
def blj : Op → Bool
 | .makeMap _ _ => true
 | _ => false
def a5i : List Oper → Nat → PM
 | [], _ => .none
 | o :: l, i => bc (blj o.op) (match o.dst with
   | some d => .mk i d
   | none => a5i l (Nat.succ i)) (a5i l (Nat.succ i))
inductive PV where
 | none
 | mk (k : K) (es : List (AV × AV))
def ak0 (a b : AV) : Bool := match om a b, om b a with
 | some false, some false => true
 | _, _ => false
def aar (a : AV) : List (AV × AV) → Bool
 | [] => true
 | e :: l => bc (ak0 a e.1) (aar a l) false
def atv : List (AV × AV) → Bool
 | [] => true
 | e :: l => bc (aar e.1 l) (atv l) false
def a90 : PV → Bool
 | .none => true
 | .mk _ es => atv es
def azh (k : K) : AV → Bool
 | .map b => K.beq b k
 | _ => false
def a67 (p : PV) (w : W) : W := match p with
 | .none => w
 | .mk k es => wset k (.umap es) w
def a8a : CL → Bool
 | .ef => true
 | _ => false
def bp7 : CL → Bool
 | .fl => true
 | _ => false
def a6p (p : Nat → Bool) : Nat → Bool
 | 0 => true
 | n + 1 => bc (p n) (a6p p n) false
def oo (pm : PM) : List Oper → Nat
 | [] => 0
 | o :: l => bc (bp7 (cls pm o.op)) (oo pm l + 1) (oo pm l)
def ad2 (ops : Array Oper) : Nat := br ops.toList
def zj (pm : PM) : List Oper → Nat → List Nat
 | [], _ => []
 | o :: l, j => bc (a8a (cls pm o.op)) (j :: zj pm l (Nat.succ j)) (zj pm l (Nat.succ j))
def bk3 (pm : PM) (ops : Array Oper) : List Nat := zj pm ops.toList 0
def ars (p : Nat → Bool) : List Nat → Bool
 | [] => true
 | x :: l => bc (p x) (ars p l) false
def afo (pm : PM) (ops : Array Oper) (j e : Nat) : Bool :=
 ars (fun x => bc (bc (c7 ops x j) (Nat.blt x e) true) (bc (Nat.blt x e) (akn (c7 ops j x)) true) false) (bk3 pm ops)
def va (pm : PM) (ops : Array Oper) (j : Nat) : Bool :=
 akn (ars (fun x => bc (bc (Nat.blt x j) (c7 ops x j) true) (bc (Nat.blt j x) (c7 ops j x) true) false) (bk3 pm ops))
def ad9 : List Operand → List Nat
 | [] => []
 | .tmp t :: l => t :: ad9 l
 | _ :: l => ad9 l
def oc (all : List Oper) (o : Oper) : List Nat :=
 ad9 o.op.operands.toList ++ (o.dst.toList ++ (match o.guard with
  | some g => ((nth all g.1).bind (·.dst)).toList
  | none => []))
def aa5 (j : Nat) : List Edge → Bool
 | [] => true
 | e :: l => bc (bc (Region.binds .any e) (Nat.blt e.on j) true) (aa5 j l) false
def aww (Wm b : Nat) : List Nat → Bool
 | [] => true
 | t :: l => bc (bao (fld Wm t) b) (aww Wm b l) false
def bon (Rm b : Nat) : Option Nat → Bool
 | none => true
 | some d => bao (fld Rm d) b
def bn4 (Wm j : Nat) : Option Nat → Nat
 | none => Wm
 | some d => asm Wm d (Nat.shiftLeft 1 j)
def bkm (j : Nat) : List Nat → Nat → Nat
 | [], Rm => Rm
 | t :: l, Rm => bkm j l (asm Rm t (Nat.shiftLeft 1 j))
def ay1 (pm : PM) (all : List Oper) (B : Nat) : List Oper → Nat → Nat → Nat → Nat → Bool
 | [], _, _, _, _ => true
 | o :: os, j, Wm, Rm, Em =>
   bc (aa5 j o.after.toList) (bc (aww Wm (fld B j) (oc all o)) (bc (bon Rm (fld B j) o.dst) (bc (bc (a8a (cls pm o.op)) (bao Em (fld B j)) true)
    (ay1 pm all B os (Nat.succ j) (bn4 Wm j o.dst) (bkm j (oc all o) Rm) (bc (a8a (cls pm o.op)) (Nat.lor Em (Nat.shiftLeft 1 j)) Em)) false) false) false) false
def zi (pm : PM) (ops : Array Oper) : Bool := bc (Nat.ble (ad2 ops) 256) (ay1 pm ops.toList (ahg ops) ops.toList 0 0 0 0) false
def dummy : Oper := { dst := none, op := .move (.func 0), type := 0, pos := "", after := #[], guard := none }
def mb (B p : Nat) : List Oper → Nat → List Oper
 | [], _ => []
 | o :: l, j => bc (tb (fld B j) p) dummy o :: mb B p l (Nat.succ j)
def ee (ops : Array Oper) (p : Nat) : Array Oper := (mb (ahg ops) p ops.toList 0).toArray
def aim (ops : Array Oper) (p : Nat) (o : Oper) : Bool := match o.guard with
 | some g => akn (c7 ops p g.1)
 | none => true
def bja (ops opsT : Array Oper) (p j : Nat) : Bool := bc (c7 ops p j) true (bc (Nat.beq (db ops j) (db opsT j)) (bc (bc (va .none opsT j) (va .none ops j) true) (match nth ops.toList j with
 | some o => aim ops p o
 | none => true) false) false)
def a9v (ops opsT : Array Oper) (p : Nat) : Bool := bc (zi .none opsT) (bc (a6p (fun j => akn (c7 ops p j)) (Nat.succ p)) (a6p (bja ops opsT p) (ad2 ops)) false) false
def ze (nt : Nat) : List Oper → F → F
 | [], τ => τ
 | o :: l, τ => ze nt l (qd nt o.dst .top τ)
inductive PF where
 | mk (i : Nat) (k : K) (o : AObj)
inductive RC where
 | mk (i : Nat) (op : Op) (τ : F) (v : AV)
inductive DS where
 | mk (τ : F) (w : W) (fk : K) (pend : List PF) (hist : List (Nat × W)) (recs : List RC) (pv : PV)
inductive DX where
 | ok (s : DS)
 | pan (ch : List PE) (w : W) (p : Nat) (s : DS)
 | no (c f : Nat)
def dk (m : Nat) : List PF → W → W
 | [], w => w
 | .mk i k o :: l, w => bc (tb m i) (wset k o (dk m l w)) (dk m l w)
def vp (m : Nat) : List PF → List PF
 | [] => []
 | .mk i k o :: l => bc (tb m i) (vp m l) (.mk i k o :: vp m l)
def ahu : List PF → W → W
 | [], w => w
 | .mk _ k o :: l, w => wset k o (ahu l w)
def hOf : W → H4 | .mk h _ => h
def a66 (o : Oper) (nt fn : Nat) : DS → DX
 | .mk τ w fk pend hist recs pv => match gD o.op τ w with
   | .val v _ => .ok (.mk (qd nt o.dst v τ) w fk pend hist recs pv)
   | .no c => .no c fn
   | _ => .no 230 fn
def a68 (pm : PM) (ops : Array Oper) (i : Nat) (o : Oper) (nt fn : Nat) : DS → DX
 | .mk τ w fk pend hist recs pv => match gD o.op τ w with
   | .val v _ => .ok (.mk (qd nt o.dst v τ) w fk pend hist (bc (va pm ops i) (.mk i o.op τ v :: recs) recs) pv)
   | .no c => .no c fn
   | _ => .no 231 fn
def a8b : AObj → Bool
 | .map [] => true
 | _ => false
def avb (pm : PM) (i : Nat) (o : Oper) (nt fn : Nat) : DS → DX
 | .mk τ w fk pend hist recs pv => match gD o.op τ (.mk (hOf w) fk) with
   | .val v (.mk h' _) => bc (isP pm i)
      (bc (a8b (ah fk h')) (.ok (.mk (qd nt o.dst v τ) w fk.succ pend hist recs (.mk fk []))) (.no 239 fn))
      (.ok (.mk (qd nt o.dst v τ) w fk.succ (.mk i fk (ah fk h') :: pend) hist recs pv))
   | .no c => .no c fn
   | _ => .no 232 fn
def dMu (o : Oper) (nt fn : Nat) : DS → DX
 | .mk τ w fk pend hist recs (.mk k es) => (match o.op, o.guard with
   | .insert t m x y, none => bc (mm t && alp t (evX x τ) && azh k (evX m τ))
      (.ok (.mk (qd nt o.dst gp τ) w fk pend hist recs (.mk k (es ++ [(evX x τ, evX y τ)])))) (.no 229 fn)
   | _, _ => .no 228 fn)
 | _ => .no 227 fn
def bds (pm : PM) (ih : Ih) (ops : Array Oper) (i : Nat) (o : Oper) (nt fn : Nat) : DS → DX
 | .mk τ w fk pend hist recs pv => match gD o.op τ (dk (db ops i) pend w) with
   | .val v w' => .ok (.mk (qd nt o.dst v τ) w' fk (vp (db ops i) pend) ((i, w) :: hist) recs pv)
   | .call f vs w' => (match enter ih f vs w' with
     | .ret v w'' => .ok (.mk (qd nt o.dst v τ) w'' fk (vp (db ops i) pend) ((i, w) :: hist) recs pv)
     | .no c f => .no c f
     | .pan ch w'' => bc (noP pm) (.pan ch w'' i (.mk (qd nt o.dst .top τ) (dk (db ops i) pend w) fk (vp (db ops i) pend) ((i, w) :: hist) recs pv)) (.no 233 fn))
   | .no c => .no c fn
   | _ => .no 234 fn
def dGo (pm : PM) (ih : Ih) (ops : Array Oper) (i : Nat) (o : Oper) (nt fn : Nat) (s : DS) : DX := match cls pm o.op with
 | .pu => a66 o nt fn s
 | .rd => a68 pm ops i o nt fn s
 | .fl => avb pm i o nt fn s
 | .ef => bds pm ih ops i o nt fn s
 | .mu => dMu o nt fn s
def a7a (pm : PM) (ops : Array Oper) (i : Nat) (o : Oper) (nt : Nat) : DS → DX
 | .mk τ w fk pend hist recs pv => match cls pm o.op with
   | .ef => .ok (.mk (qd nt o.dst gp τ) (dk (db ops i) pend w) fk (vp (db ops i) pend) ((i, w) :: hist) recs pv)
   | .mu => .no 226 0
   | _ => .ok (.mk (qd nt o.dst gp τ) w fk pend hist recs pv)
def DS.τ : DS → F | .mk τ .. => τ
def DS.w : DS → W | .mk _ w .. => w
def DS.fk : DS → K | .mk _ _ fk .. => fk
def DS.pend : DS → List PF | .mk _ _ _ p .. => p
def DS.hist : DS → List (Nat × W) | .mk _ _ _ _ h .. => h
def DS.recs : DS → List RC | .mk _ _ _ _ _ r _ => r
def DS.pv : DS → PV | .mk _ _ _ _ _ _ p => p
def qw (pm : PM) (ih : Ih) (ops : Array Oper) (i : Nat) (o : Oper) (nt fn : Nat) (s : DS) : DX := match o.guard with
 | none => dGo pm ih ops i o nt fn s
 | some g => match ky g ops.toList s.τ with
   | some true => dGo pm ih ops i o nt fn s
   | some false => a7a pm ops i o nt s
   | none => .no 235 fn
def a65 (r : DX) (k : DS → DX) : DX := match r with
 | .ok s => k s
 | .pan ch w p s => .pan ch w p s
 | .no c f => .no c f
def ahw (pm : PM) (ih : Ih) (ops : Array Oper) (nt fn : Nat) : List Oper → Nat → DS → DX
 | [], _, s => .ok s
 | o :: l, i, s => a65 (qw pm ih ops i o nt fn s) (ahw pm ih ops nt fn l (i + 1))
def a97 (op : Op) (τ : F) (v : AV) (w : W) : Bool := match gD op τ w with
 | .val v' _ => bjm v v'
 | _ => false
def a69 (pm : PM) (ops : Array Oper) : RC → List (Nat × W) → Bool
 | _, [] => true
 | .mk i op τ v, (e, w) :: l => bc (bc (afo pm ops i e) (a97 op τ v w) true) (a69 pm ops (.mk i op τ v) l) false
def yx (pm : PM) (ops : Array Oper) : List RC → List (Nat × W) → Bool
 | [], _ => true
 | r :: l, h => bc (a69 pm ops r h) (yx pm ops l h) false
def ar9 (ops opsT : Array Oper) (fn nt : Nat) (τ0 : F) (ds : List AD) (um : UM) (ch : List PE) (w2 : W) : DX → R
 | .ok (.mk _ w _ _ hist recs _) => bc (yx .none opsT recs ((ad2 ops, w) :: hist)) (.p ch (.mk (ze nt ops.toList τ0) ds um w2)) (.no 236 fn)
 | .pan _ _ _ _ => .no 225 fn
 | .no c f => .no c f
def ay0 (ih : Ih) (ops opsT : Array Oper) (fn nt : Nat) (τ0 : F) (ds : List AD) (um : UM) (ch : List PE) (w2 : W) (p : Nat) (s : DS) : R :=
 bc (a9v ops opsT p) (ar9 ops opsT fn nt τ0 ds um ch w2 (ahw .none ih opsT nt fn (opsT.toList.drop (Nat.succ p)) (Nat.succ p) s)) (.no 233 fn)
def bkz (pm : PM) (ih : Ih) (ops : Array Oper) (fn nt : Nat) (τ0 : F) (ds : List AD) (um : UM) : DX → R
 | .ok (.mk τ w _ pend hist recs pv) => bc (yx pm ops recs ((ad2 ops, w) :: hist) && a90 pv) (.n (.mk τ ds um (a67 pv (ahu pend w)))) (.no 236 fn)
 | .pan ch w2 p s => ay0 ih ops (ee ops p) fn nt τ0 ds um ch w2 p s
 | .no c f => .no c f
def at1 : Nat → K → Option K
 | 0, k => some k
 | n + 1, k => bc k.isMax none (at1 n k.succ)
def ahy (pm : PM) (ih : Ih) (ops : Array Oper) (nt fn : Nat) (τ : F) (h : H4) (nx : K) (ds : List AD) (um : UM) : Option K → R
 | some nx' => bkz pm ih ops fn nt τ ds um (ahw pm ih ops nt fn ops.toList 0 (.mk τ (.mk h nx') nx [] [] [] .none))
 | none => .no 237 fn
def ahj (pm : PM) (ops : Array Oper) (ih : Ih) (C : Ctx) : FSt → R
 | .mk τ ds um (.mk h nx) => bc (zi pm ops) (ahy pm ih ops C.nt C.fn τ h nx ds um (at1 (oo pm ops.toList) nx)) (.no 238 C.fn)
def ayw (_ : Nat) (ops : Array Oper) (ih : Ih) (C : Ctx) (S : FSt) : R := bc (zi .none ops) (ahj .none ops ih C S) (ahj (a5i ops.toList 0) ops ih C S)
def bku (_ : Nat) (ops : Array Oper) (ih : Ih) (C : Ctx) (S : FSt) : R := sy ops.toList ih ops.toList C S
def bdi (id : Nat) (ops : Array Oper) (draw : Bool) : Ih → Ctx → FSt → R := Bool.rec (motive := fun _ => Nat → Array Oper → Ih → Ctx → FSt → R) bku ayw draw id ops
def ajm (r : R) : Ih → Code → Ctx → R := R.rec (motive := fun _ => Ih → Code → Ctx → R)
 (fun S ih b C => ih b C S) (fun id S _ _ _ => .x id S) (fun S _ _ _ => .r S) (fun ch S _ _ _ => .p ch S) (fun c f _ _ _ => .no c f) r
abbrev Rh := Ih → Ctx → FSt → R
def bxd (a b : Code) (_ _ : Rh) (ih : Ih) (C : Ctx) (S : FSt) : R := ajm (ih a C S) ih b C
def a61 (v : AV) (x y : Code) (ih : Ih) (C : Ctx) (S : FSt) : R := match v with
 | .bool b => ih (bc b x y) C S
 | _ => .no 214 C.fn
def FSt.τ (S : FSt) : F := FSt.rec (motive := fun _ => F) (fun τ _ _ _ => τ) S
def bn9 (c : Operand) (x y : Code) (_ _ : Rh) (ih : Ih) (C : Ctx) (S : FSt) : R := a61 (evX c S.τ) x y ih C S
def au3 (r : R) : Nat → R := R.rec (motive := fun _ => Nat → R)
 (fun S _ => .n S) (fun id' S id => bc (Nat.beq id' id) (.n S) (.x id' S)) (fun S _ => .r S) (fun ch S _ => .p ch S) (fun c f _ => .no c f) r
def bkt (id : Nat) (b : Code) (_ : Rh) (ih : Ih) (C : Ctx) (S : FSt) : R := au3 (ih b C S) id
def md (b : Code) (ih : Ih) (C : Ctx) (S : FSt) : R := ajm (ih b C S) ih (.loop b) C
def azm (o : Option R) : Code → Ih → Ctx → FSt → R := Option.rec (motive := fun _ => Code → Ih → Ctx → FSt → R) md (fun r _ _ _ _ => r) o
def boa (b : Code) (_ : Rh) (ih : Ih) (C : Ctx) (S : FSt) : R := azm (ih.lp C b S) b ih C S
def a79 : LoopState → Bool
 | .busy => true
 | _ => false
def a92 (τ : F) (ds : List AD) (um : UM) (kl : K) (r : CR) : R := match r with
 | .ret _ w => (match cx kl w with
   | .loop st pend fn nt τ' ps x y kd => bc (a79 st) (.no 248 fn) (match pend with
     | none => .n (.mk τ ds um (wset kl (.loop .exhausted pend fn nt τ' ps x y kd) w))
     | some (.exit id) => .x id (.mk τ ds um (wset kl (.loop .exhausted pend fn nt τ' ps x y kd) w))
     | some .ret => .r (.mk τ ds um (wset kl (.loop .exhausted pend fn nt τ' ps x y kd) w))
     | _ => .no 249 fn)
   | _ => .no 250 0)
 | .pan ch w => .p ch (.mk τ ds um w)
 | .no c f => .no c f
def aje (ih : Ih) (fn : Nat) (τ : F) (ds : List AD) (um : UM) (kl : K) (r : OR) : R := match r with
 | .call g vs w => a92 τ ds um kl (enter ih g vs w)
 | _ => .no 247 fn
def amt (f : Operand) (ps : Array Tmp) (x y : Code) (ih : Ih) (C : Ctx) (S : FSt) : R := match S, C.round with
 | .mk τ ds um (.mk h nx), none => bc nx.isMax (.no 246 0) (bc nx.succ.isMax (.no 246 1)
    (aje ih C.fn τ (.coll nx :: ds) um nx.succ (aew (evX f τ) [.func (.yield nx.succ.num) [] []] (.mk (ca nx.succ (.loop .ready none C.fn C.nt τ ps.toList x y nx) (ca nx (.deferred (some [])) h)) nx.succ.succ))))
 | _, _ => .no 246 2
def bj3 (ih : Ih) (c : Code) : Ctx → FSt → R := Code.rec (motive := fun _ => Rh)
 (fun _ _ S => .n S) bdi bxd bn9 bkt boa (fun f ps x y _ _ => amt f ps x y) (fun id _ _ S => .x id S)
 (fun _ _ _ C _ => .no 216 C.fn) (fun _ _ _ S => .n S) (fun _ _ C _ => .no 217 C.fn) (fun _ _ S => .r S) (fun _ _ C _ => .no 218 C.fn) c ih
abbrev ahb := FuncId → List AV → W → Option CR
abbrev u5 := Ctx → Code → FSt → Option R
def a9j (_ : Ctx) (_ : Code) (_ : FSt) : Option R := none
def bz7 (H : ahb) (L : u5) (n : Nat) : Code → Ctx → FSt → R := Nat.rec (motive := fun _ => Code → Ctx → FSt → R) (fun _ _ _ => .no 219 0) (fun _ r => bj3 (Ih.mk H r L)) n
def yw (H : ahb) (L : u5) (n : Nat) : Ih := Ih.mk H (bz7 H L n) L
def run (H : ahb) (n : Nat) : Ih := yw H a9j n
def zx (_ : FuncId) (_ : List AV) (_ : W) : Option CR := none
inductive HE where
 | mk (f : FuncId) (vs : List AV) (v : AV)
def w0 : W := .mk ain (K.of 256)
end
end Go.Ev
