import Derived.Test.YtkfdioikigponaaGreatDoorEvFx
set_option linter.all false
namespace Go.Ev
noncomputable section
inductive PE where
 | mk (v : AV) (rec : Bool)
inductive UM where
 | none
 | ret
 | pan (ch : List PE)
inductive FSt where
 | mk (τ : F) (ds : List AD) (um : UM) (w : W)
inductive Ctx where
 | mk (fn nt : Nat) (dfr : Bool) (round : Option K)
def Ctx.nt (C : Ctx) : Nat := Ctx.rec (motive := fun _ => Nat) (fun _ nt _ _ => nt) C
def Ctx.fn (C : Ctx) : Nat := Ctx.rec (motive := fun _ => Nat) (fun fn _ _ _ => fn) C
def Ctx.dfr (C : Ctx) : Bool := Ctx.rec (motive := fun _ => Bool) (fun _ _ d _ => d) C
def Ctx.round (C : Ctx) : Option K := Ctx.rec (motive := fun _ => Option K) (fun _ _ _ r => r) C
inductive R where
 | n (S : FSt)
 | x (id : Nat) (S : FSt)
 | r (S : FSt)
 | p (ch : List PE) (S : FSt)
 | no (c f : Nat)
inductive CR where
 | ret (v : AV) (w : W)
 | pan (ch : List PE) (w : W)
 | no (c f : Nat)
structure Ih where
 hook : FuncId → List AV → W → Option CR
 run : Code → Ctx → FSt → R
 lp : Ctx → Code → FSt → Option R
instance : CoeFun Ih (fun _ => Code → Ctx → FSt → R) := ⟨Ih.run⟩
abbrev Oh := Ih → List Oper → Ctx → FSt → R
def axc (τ : F) (w : W) : ResultVar → Option AV
 | .tmp t => some (jz t τ)
 | .cell a t => match jz a τ with
   | .ptr b o => (match aad t (.ptr b o) w with
     | .val v _ => some v
     | _ => none)
   | _ => none
def aqb (τ : F) (w : W) : List ResultVar → Option (List AV)
 | [] => some []
 | r :: rs => (axc τ w r).bind fun v => (aqb τ w rs).map (v :: ·)
def b1e : List AV → AV
 | [v] => v
 | vs => .tuple vs
def results (fn : Func) (τ : F) (w : W) : CR := match aqb τ w fn.results.toList with
 | some vs => .ret (b1e vs) w
 | none => .no 200 0
def settle : UM → UM
 | .pan (.mk _ true :: _) => .ret
 | u => u
def raised (u : UM) (ch : List PE) : UM := match u with
 | .pan old => .pan (ch ++ old)
 | _ => .pan ch
inductive DR where
 | ret (u : UM) (w : W)
 | pan (ch : List PE) (u : UM) (w : W)
 | no (c f : Nat)
def abo (f : FuncId) : Option (Func × Code) := match asl f with
 | some fn => match fn.body with
   | some c => bc (Nat.ble fn.ntmps 512) (some (fn, c)) none
   | none => none
 | none => none
def aom (ih : Ih) (fn : Func) (c : Code) (f : FuncId) (vs : List AV) (dfr : Bool) (u : UM) (w : W) : R :=
 bc (Nat.ble (cy vs) fn.ntmps) (ih c (.mk f fn.ntmps dfr none) (.mk (tc vs 0 qw) [] u w)) (.no 201 f)
def aji (fn : Func) (r : R) : DR := match r with
 | .n (.mk τ [] u w) | .r (.mk τ [] u w) => (match results fn τ w with | .ret _ _ => .ret u w | _ => .no 202 0)
 | .p ch (.mk _ [] u w) => .pan ch u w
 | .no c f => .no c f
 | _ => .no 203 0
def ar1 (ih : Ih) (f : FuncId) (vs : List AV) (u : UM) (w : W) : DR := match abo f with
 | some (fn, c) => aji fn (aom ih fn c f vs true u w)
 | none => .no 204 f
def tm (ih : Ih) (fn : Func) (τ : F) : List AD → UM → W → CR
 | [], .ret, w => results fn τ w
 | [], .pan ch, w => .pan ch w
 | [], .none, _ => .no 205 0
 | .call (.func f) cap args :: ds, u, w => (match zk f (args ++ cap) w with
   | .call f vs w => (match ar1 ih f vs u w with
     | .ret u' w' => tm ih fn τ ds (settle u') w'
     | .pan ch u' w' => tm ih fn τ ds (raised u' ch) w'
     | .no c f => .no c f)
   | _ => .no 206 0)
 | .coll b :: ds, u, w => (match dy b w with
   | .deferred (some []) => tm ih fn τ ds u (wset b (.deferred none) w)
   | _ => .no 206 1)
 | _ :: _, _, _ => .no 207 0
def blu (ih : Ih) (fn : Func) (r : R) : CR := match r with
 | .n (.mk τ ds _ w) | .r (.mk τ ds _ w) => tm ih fn τ ds .ret w
 | .p ch (.mk τ ds _ w) => tm ih fn τ ds (.pan ch) w
 | .no c f => .no c f
 | _ => .no 208 0
def bnv (ih : Ih) (f : FuncId) (vs : List AV) (w : W) (b : Func × Code) : CR := blu ih b.1 (aom ih b.1 b.2 f vs false .none w)
def ax7 (ih : Ih) (f : FuncId) (vs : List AV) (w : W) : CR := match abo f with
 | some b => bnv ih f vs w b
 | none => .no 209 f
def b2h : AV → Bool
 | .bool _ => true
 | .int _ _ => true
 | .str _ _ => true
 | .nilPtr => true
 | .nilSlice => true
 | .nilMap => true
 | .nilIface => true
 | .nilFunc => true
 | _ => false
def az7 : List AV → Bool
 | [] => true
 | v :: l => bc (b2h v) (az7 l) false
def tl : List SA → List SA → Bool
 | [], [] => true
 | .mk lt a b r :: l, .mk lt' a' b' r' :: m => bc (aeo lt lt') (bc (kg a a') (bc (kg b b') (bc (aeo r r') (tl l m) false) false) false) false
 | _, _ => false
def ayb : List (Nat × Nat) → List (Nat × Nat) → Bool
 | [], [] => true
 | p :: l, q :: m => bc (Nat.beq p.1 q.1) (bc (Nat.beq p.2 q.2) (ayb l m) false) false
 | _, _ => false
def a4i : GV → GV → Bool
 | .str g A, .str g' A' => bc (rr g g') (tl A A') false
 | .sl b es n A, .sl b' es' n' A' => bc (K.beq b b') (bc (Nat.beq es es') (bc (kg n n') (tl A A') false) false) false
 | .ptr b es i o A, .ptr b' es' i' o' A' => bc (K.beq b b') (bc (Nat.beq es es') (bc (kg i i') (bc (Nat.beq o o') (tl A A') false) false) false) false
 | .sr b o n A, .sr b' o' n' A' => bc (K.beq b b') (bc (kg o o') (bc (kg n n') (tl A A') false) false) false
 | .pr b o i A, .pr b' o' i' A' => bc (K.beq b b') (bc (kg o o') (bc (kg i i') (tl A A') false) false) false
 | _, _ => false
def a7s : AV → AV → Bool
 | .bool a, .bool b => (match a, b with | true, true => true | false, false => true | _, _ => false)
 | .int k m, .int l n => bc (v8 k l) (ai9 m n) false
 | .str l n, .str l' n' => sEq l n l' n'
 | .nilPtr, .nilPtr => true
 | .ptr b o, .ptr b' o' => bc (K.beq b b') (Nat.beq o o') false
 | .nilSlice, .nilSlice => true
 | .slice b o len cap none, .slice b' o' len' cap' none => bc (K.beq b b') (bc (Nat.beq o o') (bc (Nat.beq len len') (Nat.beq cap cap') false) false) false
 | .slice b o len cap (some e), .slice b' o' len' cap' (some e') => bc (K.beq b b') (bc (Nat.beq o o') (bc (Nat.beq len len') (bc (Nat.beq cap cap') (Nat.beq e e') false) false) false) false
 | .nilMap, .nilMap => true
 | .map b, .map b' => K.beq b b'
 | .nilFunc, .nilFunc => true
 | .nilIface, .nilIface => true
 | .wse b, .wse b' => K.beq b b'
 | .sym k e A, .sym k' e' A' => bc (v8 k k') (bc (kg e e') (tl A A') false) false
 | .sx c e A, .sx c' e' A' => bc (Nat.beq c c') (bc (kg e e') (ayb A A') false) false
 | .gv x, .gv y => a4i x y
 | .wsl b k d n, .wsl b' k' d' n' => bc (K.beq b b') (bc (K.beq k k') (bc (Nat.beq d d') (Nat.beq n n') false) false) false
 | .wptr b k i, .wptr b' k' i' => bc (K.beq b b') (bc (K.beq k k') (Nat.beq i i') false) false
 | .esl, .esl => true
 | .top, .top => true
 | _, _ => false
def af7 (f : AV → AV → Bool) : List AV → List AV → Bool
 | [], [] => true
 | a :: l, b :: m => bc (f a b) (af7 f l m) false
 | _, _ => false
def bm7 : Fn → Fn → Bool
 | .func f, .func g => Nat.beq f g
 | _, _ => false
def ast : Nat → AV → AV → Bool
 | 0, _, _ => false
 | n + 1, a, b => match a, b with
   | .agg l, .agg m => af7 (ast n) l m
   | .tuple l, .tuple m => af7 (ast n) l m
   | .iface t x, .iface t' y => bc (Nat.beq t t') (ast n x y) false
   | .func f x y, .func g x' y' => bc (bm7 f g) (bc (af7 (ast n) x x') (af7 (ast n) y y') false) false
   | a, b => a7s a b
def bvl (a b : AV) : Bool := ast 8 a b
inductive LE where
 | mk (g : Nat) (cells : List AV)
abbrev ctA : List AV := [.int .u8 128, .int .u8 191, .int .u8 160, .int .u8 191, .int .u8 128, .int .u8 159, .int .u8 144, .int .u8 191, .int .u8 128, .int .u8 143, .int .u8 0, .int .u8 0, .int .u8 0, .int .u8 0, .int .u8 0, .int .u8 0, .int .u8 0, .int .u8 0, .int .u8 0, .int .u8 0, .int .u8 0, .int .u8 0, .int .u8 0, .int .u8 0, .int .u8 0, .int .u8 0, .int .u8 0, .int .u8 0, .int .u8 0, .int .u8 0, .int .u8 0, .int .u8 0]
abbrev ctB : List AV := [.int .u8 240, .int .u8 240, .int .u8 240, .int .u8 240, .int .u8 240, .int .u8 240, .int .u8 240, .int .u8 240, .int .u8 240, .int .u8 240, .int .u8 240, .int .u8 240, .int .u8 240, .int .u8 240, .int .u8 240, .int .u8 240, .int .u8 240, .int .u8 240, .int .u8 240, .int .u8 240, .int .u8 240, .int .u8 240, .int .u8 240, .int .u8 240, .int .u8 240, .int .u8 240, .int .u8 240, .int .u8 240, .int .u8 240, .int .u8 240, .int .u8 240, .int .u8 240, .int .u8 240, .int .u8 240, .int .u8 240, .int .u8 240, .int .u8 240, .int .u8 240, .int .u8 240, .int .u8 240, .int .u8 240, .int .u8 240, .int .u8 240, .int .u8 240, .int .u8 240, .int .u8 240, .int .u8 240, .int .u8 240, .int .u8 240, .int .u8 240, .int .u8 240, .int .u8 240, .int .u8 240, .int .u8 240, .int .u8 240, .int .u8 240, .int .u8 240, .int .u8 240, .int .u8 240, .int .u8 240, .int .u8 240, .int .u8 240, .int .u8 240, .int .u8 240, .int .u8 240, .int .u8 240, .int .u8 240, .int .u8 240, .int .u8 240, .int .u8 240, .int .u8 240, .int .u8 240, .int .u8 240, .int .u8 240, .int .u8 240, .int .u8 240, .int .u8 240, .int .u8 240, .int .u8 240, .int .u8 240, .int .u8 240, .int .u8 240, .int .u8 240, .int .u8 240, .int .u8 240, .int .u8 240, .int .u8 240, .int .u8 240, .int .u8 240, .int .u8 240, .int .u8 240, .int .u8 240, .int .u8 240, .int .u8 240, .int .u8 240, .int .u8 240, .int .u8 240, .int .u8 240, .int .u8 240, .int .u8 240, .int .u8 240, .int .u8 240, .int .u8 240, .int .u8 240, .int .u8 240, .int .u8 240, .int .u8 240, .int .u8 240, .int .u8 240, .int .u8 240, .int .u8 240, .int .u8 240, .int .u8 240, .int .u8 240, .int .u8 240, .int .u8 240, .int .u8 240, .int .u8 240, .int .u8 240, .int .u8 240, .int .u8 240, .int .u8 240, .int .u8 240, .int .u8 240, .int .u8 240, .int .u8 240, .int .u8 240, .int .u8 240, .int .u8 241, .int .u8 241, .int .u8 241, .int .u8 241, .int .u8 241, .int .u8 241, .int .u8 241, .int .u8 241, .int .u8 241, .int .u8 241, .int .u8 241, .int .u8 241, .int .u8 241, .int .u8 241, .int .u8 241, .int .u8 241, .int .u8 241, .int .u8 241, .int .u8 241, .int .u8 241, .int .u8 241, .int .u8 241, .int .u8 241, .int .u8 241, .int .u8 241, .int .u8 241, .int .u8 241, .int .u8 241, .int .u8 241, .int .u8 241, .int .u8 241, .int .u8 241, .int .u8 241, .int .u8 241, .int .u8 241, .int .u8 241, .int .u8 241, .int .u8 241, .int .u8 241, .int .u8 241, .int .u8 241, .int .u8 241, .int .u8 241, .int .u8 241, .int .u8 241, .int .u8 241, .int .u8 241, .int .u8 241, .int .u8 241, .int .u8 241, .int .u8 241, .int .u8 241, .int .u8 241, .int .u8 241, .int .u8 241, .int .u8 241, .int .u8 241, .int .u8 241, .int .u8 241, .int .u8 241, .int .u8 241, .int .u8 241, .int .u8 241, .int .u8 241, .int .u8 241, .int .u8 241, .int .u8 2, .int .u8 2, .int .u8 2, .int .u8 2, .int .u8 2, .int .u8 2, .int .u8 2, .int .u8 2, .int .u8 2, .int .u8 2, .int .u8 2, .int .u8 2, .int .u8 2, .int .u8 2, .int .u8 2, .int .u8 2, .int .u8 2, .int .u8 2, .int .u8 2, .int .u8 2, .int .u8 2, .int .u8 2, .int .u8 2, .int .u8 2, .int .u8 2, .int .u8 2, .int .u8 2, .int .u8 2, .int .u8 2, .int .u8 2, .int .u8 19, .int .u8 3, .int .u8 3, .int .u8 3, .int .u8 3, .int .u8 3, .int .u8 3, .int .u8 3, .int .u8 3, .int .u8 3, .int .u8 3, .int .u8 3, .int .u8 3, .int .u8 35, .int .u8 3, .int .u8 3, .int .u8 52, .int .u8 4, .int .u8 4, .int .u8 4, .int .u8 68, .int .u8 241, .int .u8 241, .int .u8 241, .int .u8 241, .int .u8 241, .int .u8 241, .int .u8 241, .int .u8 241, .int .u8 241, .int .u8 241, .int .u8 241]
def laidL : List LE := [.mk 1 ctA, .mk 0 ctB]
def vm : List LE → W → Bool
 | [], _ => true
 | .mk g cs :: l, w => (match dy (K.of g) w with
   | .ro t _ _ => bc (Nat.beq t (Nat.succ g)) (vm l w) false
   | _ => false)
def ly : List LE → H4
 | [] => aow
 | .mk g cs :: l => db (K.of g) (.ro (Nat.succ g) (cy cs) (qu cs 0 (lz (cy cs)))) (ly l)
def yn : List LE → Bool
 | [] => true
 | .mk g cs :: l => bc (Nat.ble g 255 && az7 cs && Nat.ble (cy cs) 65536) (yn l) false
def wS : W := .mk (ly laidL) (K.of 256)
def b90 (o : Option CR) : Ih → FuncId → List AV → W → CR := Option.rec (motive := fun _ => Ih → FuncId → List AV → W → CR) ax7 (fun r _ _ _ _ => r) o
def enter (ih : Ih) (f : FuncId) (vs : List AV) (w : W) : CR := b90 (ih.hook f vs w) ih f vs w
def aet (nt : Nat) : List Nat → List AV → F → F
 | t :: ts, v :: vs, τ => aet nt ts vs (aun nt t v τ)
 | _, _, τ => τ
def arv (b : K) (jump : Option Code) (st : LoopState) (v : Bool) (w : W) : CR := match dy b w with
 | .loop _ _ fn nt τ ps x y kd => .ret (.bool v) (wset b (.loop st jump fn nt τ ps x y kd) w)
 | _ => .no 245 0
def ar3 (b : K) (fn : Nat) (r : R) : CR := match r with
 | .n (.mk _ [] _ w) => arv b none .ready true w
 | .x id (.mk _ [] _ w) => arv b (some (.exit id)) .done false w
 | .r (.mk _ [] _ w) => arv b (some .ret) .done false w
 | .p ch (.mk _ [] _ w) => bc (asl fn).isSome (.pan ch w) (.no 244 fn)
 | .no c f => .no c f
 | _ => .no 244 fn
def av5 (ih : Ih) (b : K) (fn nt : Nat) (y : Code) (r : R) : CR := match r with
 | .n (.mk τ [] um w) => (match dy b w with
   | .loop .ready pend fn' nt' τ' ps x y' kd => ar3 b fn (ih y (.mk fn nt false (some b)) (.mk τ [] um (wset b (.loop .busy pend fn' nt' τ' ps x y' kd) w)))
   | _ => .no 242 fn)
 | .no c f => .no c f
 | _ => .no 243 fn
def aci (ih : Ih) (b : K) (vs : List AV) (w : W) : CR := match dy b w with
 | .loop _ _ fn nt τ ps x y _ => bc (Nat.beq (cy ps) (cy vs)) (av5 ih b fn nt y (ih x (.mk fn nt false (some b)) (.mk (aet nt ps vs τ) [] .none w))) (.no 240 fn)
 | _ => .no 241 0
def om (g : Nat × Bool) (all : List Oper) (τ : F) : Option Bool :=
 match (nth all g.1).bind (·.dst) with
 | some d => (match jz d τ with | .bool b => some (b == g.2) | .tuple _ => some false | _ => none)
 | none => none
def b7u (v : AV) (w : W) (dst : Option Nat) (IH : Oh) (ih : Ih) (all : List Oper) (C : Ctx) (τ : F) (ds : List AD) (um : UM) : R :=
 IH ih all C (.mk (vl C.nt dst v τ) ds um w)
def crK (r : CR) : Option Nat → Oh → Ih → List Oper → Ctx → F → List AD → UM → R :=
 CR.rec (motive := fun _ => Option Nat → Oh → Ih → List Oper → Ctx → F → List AD → UM → R)
  b7u
  (fun ch w _ _ _ _ _ τ ds um => .p ch (.mk τ ds um w))
  (fun c f _ _ _ _ _ _ _ _ => .no c f) r
def b8j (f : FuncId) (vs : List AV) (w : W) (dst : Option Nat) (IH : Oh) (ih : Ih) (all : List Oper) (C : Ctx) (τ : F) (ds : List AD) (um : UM) : R :=
 crK (enter ih f vs w) dst IH ih all C τ ds um
def caq (b : K) (vs : List AV) (w : W) (dst : Option Nat) (IH : Oh) (ih : Ih) (all : List Oper) (C : Ctx) (τ : F) (ds : List AD) (um : UM) : R :=
 crK (aci ih b vs w) dst IH ih all C τ ds um
def cbm (v : AV) (w : W) (dst : Option Nat) (IH : Oh) (ih : Ih) (all : List Oper) (C : Ctx) (τ : F) (ds : List AD) (um : UM) : R := .p [.mk v false] (.mk τ ds um w)
def cbn (d : AD) (w : W) (dst : Option Nat) (IH : Oh) (ih : Ih) (all : List Oper) (C : Ctx) (τ : F) (ds : List AD) (um : UM) : R :=
 match C.round with
 | none => IH ih all C (.mk (vl C.nt dst jt τ) (d :: ds) um w)
 | some _ => .no 211 C.fn
def a2s (w : W) (dst : Option Nat) (IH : Oh) (ih : Ih) (all : List Oper) (C : Ctx) (τ : F) (ds : List AD) (um : UM) : R :=
 match C.round, C.dfr, um with
 | some _, _, _ => .no 212 C.fn
 | none, true, .pan (.mk v false :: older) => IH ih all C (.mk (vl C.nt dst v τ) ds (.pan (.mk v true :: older)) w)
 | none, _, um => IH ih all C (.mk (vl C.nt dst .nilIface τ) ds um w)
def orK (r : OR) : Option Nat → Oh → Ih → List Oper → Ctx → F → List AD → UM → R :=
 OR.rec (motive := fun _ => Option Nat → Oh → Ih → List Oper → Ctx → F → List AD → UM → R)
  b7u b8j caq cbm cbn a2s (fun c _ _ _ _ C _ _ _ => .no c C.fn) r
def oGo (dst : Option Nat) (op : Op) (IH : Oh) (ih : Ih) (all : List Oper) (C : Ctx) (S : FSt) : R :=
 FSt.rec (motive := fun _ => Option Nat → Op → Oh → Ih → List Oper → Ctx → R)
  (fun τ ds um w dst op IH ih all C => orK (gOp op τ w) dst IH ih all C τ ds um) S dst op IH ih all C
def bwp (dst : Option Nat) (IH : Oh) (ih : Ih) (all : List Oper) (C : Ctx) (S : FSt) : R :=
 FSt.rec (motive := fun _ => Option Nat → Oh → Ih → List Oper → Ctx → R)
  (fun τ ds um w dst IH ih all C => IH ih all C (.mk (vl C.nt dst jt τ) ds um w)) S dst IH ih all C
def b3k (g : Nat × Bool) (dst : Option Nat) (op : Op) (IH : Oh) (ih : Ih) (all : List Oper) (C : Ctx) (S : FSt) : R :=
 match S with
 | .mk τ _ _ _ => match om g all τ with
   | some true => oGo dst op IH ih all C S
   | some false => bwp dst IH ih all C S
   | none => .no 213 C.fn
def azq (g : Option (Nat × Bool)) : Option Nat → Op → Oh → Ih → List Oper → Ctx → FSt → R :=
 Option.rec (motive := fun _ => Option Nat → Op → Oh → Ih → List Oper → Ctx → FSt → R) oGo b3k g
def b4x (o : Oper) : Oh → Ih → List Oper → Ctx → FSt → R :=
 Oper.rec (motive := fun _ => Oh → Ih → List Oper → Ctx → FSt → R)
  (fun dst op _ _ _ g IH ih all C S => azq g dst op IH ih all C S) o
def ym (l : List Oper) : Oh :=
 List.rec (motive := fun _ => Oh) (fun _ _ _ S => .n S) (fun o _ IH ih all C S => b4x o IH ih all C S) l
def tb (m i : Nat) : Bool := Nat.beq (Nat.land (Nat.shiftRight m i) 1) 1
def aoi : Nat := 115792089237316195423570985008687907853269984665640564039457584007913129639936
def fld (M t : Nat) : Nat := Nat.mod (Nat.shiftRight M (Nat.mul t 256)) aoi
def a19 (M t m : Nat) : Nat := Nat.lor M (Nat.shiftLeft (Nat.mod m aoi) (Nat.mul t 256))
def bkz (x y : Nat) : Bool := Nat.beq (Nat.land x y) x
def bdd : List Edge → Nat → Nat → Nat
 | [], _, s => s
 | e :: es, B, s => bdd es B (bc (Region.binds .any e) (Nat.lor (Nat.lor s (Nat.shiftLeft 1 e.on)) (fld B e.on)) s)
def b28 : List Oper → Nat → Nat → Nat
 | [], _, B => B
 | o :: os, j, B => b28 os (Nat.succ j) (a19 B j (bdd o.after.toList B 0))
def ap9 (ops : Array Oper) : Nat := b28 ops.toList 0 0
def eo (ops : Array Oper) (j : Nat) : Nat := fld (ap9 ops) j
def dv (ops : Array Oper) (i j : Nat) : Bool := tb (eo ops j) i
inductive CL where
 | pu
 | rd
 | fl
 | ef
 | mu
def aem : Op → CL
 | .move _ => .pu
 | .assign _ => .pu
 | .fieldAddr .. => .pu
 | .extract .. => .pu
 | .nilCheck _ => .pu
 | .load .. => .rd
 | .lookup .. => .rd
 | .convert .. => .rd
 | .binOp .. => .rd
 | .unOp .. => .rd
 | .index .. => .rd
 | .indexAddr .. => .rd
 | .field .. => .rd
 | .slice .. => .rd
 | .typeAssert .. => .rd
 | .pick .. => .rd
 | .build .. => .rd
 | .makeInterface .. => .rd
 | .makeFunc .. => .rd
 | .call { callee := .builtin .len, .. } => .rd
 | .alloc _ => .fl
 | .box .. => .fl
 | .buildSlice .. => .fl
 | .makeMap .. => .fl
 | _ => .ef
inductive PM where
 | none
 | mk (i d : Nat)
def b51 (t : Nat) (d : Nat) : CL := bc (Nat.beq t d) .mu .ef
def bsx (d : Nat) : Op → CL
 | .insert _ (.tmp t) _ _ => b51 t d
 | op => aem op
def cls (pm : PM) (op : Op) : CL := PM.rec (motive := fun _ => Op → CL) aem (fun _ d => bsx d) pm op
def isP (pm : PM) (j : Nat) : Bool := match pm with
 | .none => false
 | .mk i _ => Nat.beq i j
def noP : PM → Bool
 | .none => true
 | .mk _ _ => false
def b2x : Op → Bool
 | .makeMap _ _ => true
 | _ => false
def bgn : List Oper → Nat → PM
 | [], _ => .none
 | o :: l, i => bc (b2x o.op) (match o.dst with
   | some d => .mk i d
   | none => bgn l (Nat.succ i)) (bgn l (Nat.succ i))
inductive PV where
 | none
 | mk (k : K) (es : List (AV × AV))
def aul (a b : AV) : Bool := match tp a b, tp b a with
 | some false, some false => true
 | _, _ => false
def ahg (a : AV) : List (AV × AV) → Bool
 | [] => true
 | e :: l => bc (aul a e.1) (ahg a l) false
def a2d : List (AV × AV) → Bool
 | [] => true
 | e :: l => bc (ahg e.1 l) (a2d l) false
def bkw : PV → Bool
 | .none => true
 | .mk _ es => a2d es
def a8m (k : K) : AV → Bool
 | .map b => K.beq b k
 | _ => false
def blz (p : PV) (w : W) : W := match p with
 | .none => w
 | .mk k es => wset k (.umap es) w
def bhr : CL → Bool
 | .ef => true
 | _ => false
def b94 : CL → Bool
 | .fl => true
 | _ => false
def bhs (p : Nat → Bool) : Nat → Bool
 | 0 => true
 | n + 1 => bc (p n) (bhs p n) false
def tq (pm : PM) : List Oper → Nat
 | [] => 0
 | o :: l => bc (b94 (cls pm o.op)) (tq pm l + 1) (tq pm l)
def akd (ops : Array Oper) : Nat := cy ops.toList
def af0 (pm : PM) : List Oper → Nat → List Nat
 | [], _ => []
 | o :: l, j => bc (bhr (cls pm o.op)) (j :: af0 pm l (Nat.succ j)) (af0 pm l (Nat.succ j))
def b1w (pm : PM) (ops : Array Oper) : List Nat := af0 pm ops.toList 0
def a2e (p : Nat → Bool) : List Nat → Bool
 | [] => true
 | x :: l => bc (p x) (a2e p l) false
def anl (pm : PM) (ops : Array Oper) (j e : Nat) : Bool :=
 a2e (fun x => bc (bc (dv ops x j) (Nat.blt x e) true) (bc (Nat.blt x e) (asn (dv ops j x)) true) false) (b1w pm ops)
def abf (pm : PM) (ops : Array Oper) (j : Nat) : Bool :=
 asn (a2e (fun x => bc (bc (Nat.blt x j) (dv ops x j) true) (bc (Nat.blt j x) (dv ops j x) true) false) (b1w pm ops))
def akc : List Operand → List Nat
 | [] => []
 | .tmp t :: l => t :: akc l
 | _ :: l => akc l
def th (all : List Oper) (o : Oper) : List Nat :=
 akc o.op.operands.toList ++ (o.dst.toList ++ (match o.guard with
  | some g => ((nth all g.1).bind (·.dst)).toList
  | none => []))
def ag2 (j : Nat) : List Edge → Bool
 | [] => true
 | e :: l => bc (bc (Region.binds .any e) (Nat.blt e.on j) true) (ag2 j l) false
def a4h (Wm b : Nat) : List Nat → Bool
 | [] => true
 | t :: l => bc (bkz (fld Wm t) b) (a4h Wm b l) false
def b74 (Rm b : Nat) : Option Nat → Bool
 | none => true
 | some d => bkz (fld Rm d) b
def b4t (Wm j : Nat) : Option Nat → Nat
 | none => Wm
 | some d => a19 Wm d (Nat.shiftLeft 1 j)
def b4i (j : Nat) : List Nat → Nat → Nat
 | [], Rm => Rm
 | t :: l, Rm => b4i j l (a19 Rm t (Nat.shiftLeft 1 j))
def bdp (pm : PM) (all : List Oper) (B : Nat) : List Oper → Nat → Nat → Nat → Nat → Bool
 | [], _, _, _, _ => true
 | o :: os, j, Wm, Rm, Em =>
   bc (ag2 j o.after.toList) (bc (a4h Wm (fld B j) (th all o)) (bc (b74 Rm (fld B j) o.dst) (bc (bc (bhr (cls pm o.op)) (bkz Em (fld B j)) true)
    (bdp pm all B os (Nat.succ j) (b4t Wm j o.dst) (b4i j (th all o) Rm) (bc (bhr (cls pm o.op)) (Nat.lor Em (Nat.shiftLeft 1 j)) Em)) false) false) false) false
def af6 (pm : PM) (ops : Array Oper) : Bool := bc (Nat.ble (akd ops) 256) (bdp pm ops.toList (ap9 ops) ops.toList 0 0 0 0) false
def dummy : Oper := { dst := none, op := .move (.func 0), type := 0, pos := "", after := #[], guard := none }
def qg (B p : Nat) : List Oper → Nat → List Oper
 | [], _ => []
 | o :: l, j => bc (tb (fld B j) p) dummy o :: qg B p l (Nat.succ j)
def gd (ops : Array Oper) (p : Nat) : Array Oper := (qg (ap9 ops) p ops.toList 0).toArray
def ar9 (ops : Array Oper) (p : Nat) (o : Oper) : Bool := match o.guard with
 | some g => asn (dv ops p g.1)
 | none => true
def bx1 (ops opsT : Array Oper) (p j : Nat) : Bool := bc (dv ops p j) true (bc (Nat.beq (eo ops j) (eo opsT j)) (bc (bc (abf .none opsT j) (abf .none ops j) true) (match nth ops.toList j with
 | some o => ar9 ops p o
 | none => true) false) false)
def bm1 (ops opsT : Array Oper) (p : Nat) : Bool := bc (af6 .none opsT) (bc (bhs (fun j => asn (dv ops p j)) (Nat.succ p)) (bhs (bx1 ops opsT p) (akd ops)) false) false
def afp (nt : Nat) : List Oper → F → F
 | [], τ => τ
 | o :: l, τ => afp nt l (vl nt o.dst .top τ)
inductive PF where
 | mk (i : Nat) (k : K) (o : AObj)
inductive RC where
 | mk (i : Nat) (op : Op) (τ : F) (v : AV)
inductive DS where
 | mk (τ : F) (w : W) (fk : K) (pend : List PF) (hist : List (Nat × W)) (recs : List RC) (pv : PV)
inductive DX where
 | ok (s : DS)
 | pan (ch : List PE) (w : W) (p : Nat) (s : DS)
 | no (c f : Nat)
def e9 (m : Nat) : List PF → W → W
 | [], w => w
 | .mk i k o :: l, w => bc (tb m i) (wset k o (e9 m l w)) (e9 m l w)
def ack (m : Nat) : List PF → List PF
 | [] => []
 | .mk i k o :: l => bc (tb m i) (ack m l) (.mk i k o :: ack m l)
def aqw : List PF → W → W
 | [], w => w
 | .mk _ k o :: l, w => wset k o (aqw l w)
def hOf : W → H4 | .mk h _ => h
def bg3 (o : Oper) (nt fn : Nat) : DS → DX
 | .mk τ w fk pend hist recs pv => match gD o.op τ w with
   | .val v _ => .ok (.mk (vl nt o.dst v τ) w fk pend hist recs pv)
   | .no c => .no c fn
   | _ => .no 230 fn
def bjr (pm : PM) (ops : Array Oper) (i : Nat) (o : Oper) (nt fn : Nat) : DS → DX
 | .mk τ w fk pend hist recs pv => match gD o.op τ w with
   | .val v _ => .ok (.mk (vl nt o.dst v τ) w fk pend hist (bc (abf pm ops i) (.mk i o.op τ v :: recs) recs) pv)
   | .no c => .no c fn
   | _ => .no 231 fn
def bhk : AObj → Bool
 | .map [] => true
 | _ => false
def a5o (pm : PM) (i : Nat) (o : Oper) (nt fn : Nat) : DS → DX
 | .mk τ w fk pend hist recs pv => match gD o.op τ (.mk (hOf w) fk) with
   | .val v (.mk h' _) => bc (isP pm i)
      (bc (bhk (ac fk h')) (.ok (.mk (vl nt o.dst v τ) w fk.succ pend hist recs (.mk fk []))) (.no 239 fn))
      (.ok (.mk (vl nt o.dst v τ) w fk.succ (.mk i fk (ac fk h') :: pend) hist recs pv))
   | .no c => .no c fn
   | _ => .no 232 fn
def dMu (o : Oper) (nt fn : Nat) : DS → DX
 | .mk τ w fk pend hist recs (.mk k es) => (match o.op, o.guard with
   | .insert t m x y, none => bc (qh t && at2 t (evX x τ) && a8m k (evX m τ))
      (.ok (.mk (vl nt o.dst jt τ) w fk pend hist recs (.mk k (es ++ [(evX x τ, evX y τ)])))) (.no 229 fn)
   | _, _ => .no 228 fn)
 | _ => .no 227 fn
def bo5 (pm : PM) (ih : Ih) (ops : Array Oper) (i : Nat) (o : Oper) (nt fn : Nat) : DS → DX
 | .mk τ w fk pend hist recs pv => match gD o.op τ (e9 (eo ops i) pend w) with
   | .val v w' => .ok (.mk (vl nt o.dst v τ) w' fk (ack (eo ops i) pend) ((i, w) :: hist) recs pv)
   | .call f vs w' => (match enter ih f vs w' with
     | .ret v w'' => .ok (.mk (vl nt o.dst v τ) w'' fk (ack (eo ops i) pend) ((i, w) :: hist) recs pv)
     | .no c f => .no c f
     | .pan ch w'' => bc (noP pm) (.pan ch w'' i (.mk (vl nt o.dst .top τ) (e9 (eo ops i) pend w) fk (ack (eo ops i) pend) ((i, w) :: hist) recs pv)) (.no 233 fn))
   | .no c => .no c fn
   | _ => .no 234 fn
def dGo (pm : PM) (ih : Ih) (ops : Array Oper) (i : Nat) (o : Oper) (nt fn : Nat) (s : DS) : DX := match cls pm o.op with
 | .pu => bg3 o nt fn s
 | .rd => bjr pm ops i o nt fn s
 | .fl => a5o pm i o nt fn s
 | .ef => bo5 pm ih ops i o nt fn s
 | .mu => dMu o nt fn s
def bj1 (pm : PM) (ops : Array Oper) (i : Nat) (o : Oper) (nt : Nat) : DS → DX
 | .mk τ w fk pend hist recs pv => match cls pm o.op with
   | .ef => .ok (.mk (vl nt o.dst jt τ) (e9 (eo ops i) pend w) fk (ack (eo ops i) pend) ((i, w) :: hist) recs pv)
   | .mu => .no 226 0
   | _ => .ok (.mk (vl nt o.dst jt τ) w fk pend hist recs pv)
def DS.τ : DS → F | .mk τ .. => τ
def DS.w : DS → W | .mk _ w .. => w
def DS.fk : DS → K | .mk _ _ fk .. => fk
def DS.pend : DS → List PF | .mk _ _ _ p .. => p
def DS.hist : DS → List (Nat × W) | .mk _ _ _ _ h .. => h
def DS.recs : DS → List RC | .mk _ _ _ _ _ r _ => r
def DS.pv : DS → PV | .mk _ _ _ _ _ _ p => p
def xe (pm : PM) (ih : Ih) (ops : Array Oper) (i : Nat) (o : Oper) (nt fn : Nat) (s : DS) : DX := match o.guard with
 | none => dGo pm ih ops i o nt fn s
 | some g => match om g ops.toList s.τ with
   | some true => dGo pm ih ops i o nt fn s
   | some false => bj1 pm ops i o nt s
   | none => .no 235 fn
def bip (r : DX) (k : DS → DX) : DX := match r with
 | .ok s => k s
 | .pan ch w p s => .pan ch w p s
 | .no c f => .no c f
def an9 (pm : PM) (ih : Ih) (ops : Array Oper) (nt fn : Nat) : List Oper → Nat → DS → DX
 | [], _, s => .ok s
 | o :: l, i, s => bip (xe pm ih ops i o nt fn s) (an9 pm ih ops nt fn l (i + 1))
def bj8 (op : Op) (τ : F) (v : AV) (w : W) : Bool := match gD op τ w with
 | .val v' _ => bvl v v'
 | _ => false
def biq (pm : PM) (ops : Array Oper) : RC → List (Nat × W) → Bool
 | _, [] => true
 | .mk i op τ v, (e, w) :: l => bc (bc (anl pm ops i e) (bj8 op τ v w) true) (biq pm ops (.mk i op τ v) l) false
def aes (pm : PM) (ops : Array Oper) : List RC → List (Nat × W) → Bool
 | [], _ => true
 | r :: l, h => bc (biq pm ops r h) (aes pm ops l h) false
def a1e (ops opsT : Array Oper) (fn nt : Nat) (τ0 : F) (ds : List AD) (um : UM) (ch : List PE) (w2 : W) : DX → R
 | .ok (.mk _ w _ _ hist recs _) => bc (aes .none opsT recs ((akd ops, w) :: hist)) (.p ch (.mk (afp nt ops.toList τ0) ds um w2)) (.no 236 fn)
 | .pan _ _ _ _ => .no 225 fn
 | .no c f => .no c f
def a7q (ih : Ih) (ops opsT : Array Oper) (fn nt : Nat) (τ0 : F) (ds : List AD) (um : UM) (ch : List PE) (w2 : W) (p : Nat) (s : DS) : R :=
 bc (bm1 ops opsT p) (a1e ops opsT fn nt τ0 ds um ch w2 (an9 .none ih opsT nt fn (opsT.toList.drop (Nat.succ p)) (Nat.succ p) s)) (.no 233 fn)
def b2d (pm : PM) (ih : Ih) (ops : Array Oper) (fn nt : Nat) (τ0 : F) (ds : List AD) (um : UM) : DX → R
 | .ok (.mk τ w _ pend hist recs pv) => bc (aes pm ops recs ((akd ops, w) :: hist) && bkw pv) (.n (.mk τ ds um (blz pv (aqw pend w)))) (.no 236 fn)
 | .pan ch w2 p s => a7q ih ops (gd ops p) fn nt τ0 ds um ch w2 p s
 | .no c f => .no c f
def a18 : Nat → K → Option K
 | 0, k => some k
 | n + 1, k => bc k.isMax none (a18 n k.succ)
def ape (pm : PM) (ih : Ih) (ops : Array Oper) (nt fn : Nat) (τ : F) (h : H4) (nx : K) (ds : List AD) (um : UM) : Option K → R
 | some nx' => b2d pm ih ops fn nt τ ds um (an9 pm ih ops nt fn ops.toList 0 (.mk τ (.mk h nx') nx [] [] [] .none))
 | none => .no 237 fn
def ap7 (pm : PM) (ops : Array Oper) (ih : Ih) (C : Ctx) : FSt → R
 | .mk τ ds um (.mk h nx) => bc (af6 pm ops) (ape pm ih ops C.nt C.fn τ h nx ds um (a18 (tq pm ops.toList) nx)) (.no 238 C.fn)
def bar (_ : Nat) (ops : Array Oper) (ih : Ih) (C : Ctx) (S : FSt) : R := bc (af6 .none ops) (ap7 .none ops ih C S) (ap7 (bgn ops.toList 0) ops ih C S)
def b0s (_ : Nat) (ops : Array Oper) (ih : Ih) (C : Ctx) (S : FSt) : R := ym ops.toList ih ops.toList C S
def bp3 (id : Nat) (ops : Array Oper) (draw : Bool) : Ih → Ctx → FSt → R := Bool.rec (motive := fun _ => Nat → Array Oper → Ih → Ctx → FSt → R) b0s bar draw id ops
def arc (r : R) : Ih → Code → Ctx → R := R.rec (motive := fun _ => Ih → Code → Ctx → R)
 (fun S ih b C => ih b C S) (fun id S _ _ _ => .x id S) (fun S _ _ _ => .r S) (fun ch S _ _ _ => .p ch S) (fun c f _ _ _ => .no c f) r
abbrev Rh := Ih → Ctx → FSt → R
def cbk (a b : Code) (_ _ : Rh) (ih : Ih) (C : Ctx) (S : FSt) : R := arc (ih a C S) ih b C
def blv (v : AV) (x y : Code) (ih : Ih) (C : Ctx) (S : FSt) : R := match v with
 | .bool b => ih (bc b x y) C S
 | _ => .no 214 C.fn
def FSt.τ (S : FSt) : F := FSt.rec (motive := fun _ => F) (fun τ _ _ _ => τ) S
def b78 (c : Operand) (x y : Code) (_ _ : Rh) (ih : Ih) (C : Ctx) (S : FSt) : R := blv (evX c S.τ) x y ih C S
def a4o (r : R) : Nat → R := R.rec (motive := fun _ => Nat → R)
 (fun S _ => .n S) (fun id' S id => bc (Nat.beq id' id) (.n S) (.x id' S)) (fun S _ => .r S) (fun ch S _ => .p ch S) (fun c f _ => .no c f) r
def b4s (id : Nat) (b : Code) (_ : Rh) (ih : Ih) (C : Ctx) (S : FSt) : R := a4o (ih b C S) id
def xq (b : Code) (ih : Ih) (C : Ctx) (S : FSt) : R := arc (ih b C S) ih (.loop b) C
def a8f (o : Option R) : Code → Ih → Ctx → FSt → R := Option.rec (motive := fun _ => Code → Ih → Ctx → FSt → R) xq (fun r _ _ _ _ => r) o
def b8m (b : Code) (_ : Rh) (ih : Ih) (C : Ctx) (S : FSt) : R := a8f (ih.lp C b S) b ih C S
def bkt : LoopState → Bool
 | .busy => true
 | _ => false
def bmt (τ : F) (ds : List AD) (um : UM) (kl : K) (r : CR) : R := match r with
 | .ret _ w => (match dy kl w with
   | .loop st pend fn nt τ' ps x y kd => bc (bkt st) (.no 248 fn) (match pend with
     | none => .n (.mk τ ds um (wset kl (.loop .exhausted pend fn nt τ' ps x y kd) w))
     | some (.exit id) => .x id (.mk τ ds um (wset kl (.loop .exhausted pend fn nt τ' ps x y kd) w))
     | some .ret => .r (.mk τ ds um (wset kl (.loop .exhausted pend fn nt τ' ps x y kd) w))
     | _ => .no 249 fn)
   | _ => .no 250 0)
 | .pan ch w => .p ch (.mk τ ds um w)
 | .no c f => .no c f
def apg (ih : Ih) (fn : Nat) (τ : F) (ds : List AD) (um : UM) (kl : K) (r : OR) : R := match r with
 | .call g vs w => bmt τ ds um kl (enter ih g vs w)
 | _ => .no 247 fn
def auw (f : Operand) (ps : Array Tmp) (x y : Code) (ih : Ih) (C : Ctx) (S : FSt) : R := match S, C.round with
 | .mk τ ds um (.mk h nx), none => bc nx.isMax (.no 246 0) (bc nx.succ.isMax (.no 246 1)
    (apg ih C.fn τ (.coll nx :: ds) um nx.succ (aky (evX f τ) [.func (.yield nx.succ.num) [] []] (.mk (db nx.succ (.loop .ready none C.fn C.nt τ ps.toList x y nx) (db nx (.deferred (some [])) h)) nx.succ.succ))))
 | _, _ => .no 246 2
def bwy (ih : Ih) (c : Code) : Ctx → FSt → R := Code.rec (motive := fun _ => Rh)
 (fun _ _ S => .n S) bp3 cbk b78 b4s b8m (fun f ps x y _ _ => auw f ps x y) (fun id _ _ S => .x id S)
 (fun _ _ _ C _ => .no 216 C.fn) (fun _ _ _ S => .n S) (fun _ _ C _ => .no 217 C.fn) (fun _ _ S => .r S) (fun _ _ C _ => .no 218 C.fn) c ih
abbrev aqu := FuncId → List AV → W → Option CR
abbrev abj := Ctx → Code → FSt → Option R
def b2n (_ : Ctx) (_ : Code) (_ : FSt) : Option R := none
def ccr (H : aqu) (L : abj) (n : Nat) : Code → Ctx → FSt → R := Nat.rec (motive := fun _ => Code → Ctx → FSt → R) (fun _ _ _ => .no 219 0) (fun _ r => bwy (Ih.mk H r L)) n
def ald (H : aqu) (L : abj) (n : Nat) : Ih := Ih.mk H (ccr H L n) L
def run (H : aqu) (n : Nat) : Ih := ald H b2n n
def a6k (_ : FuncId) (_ : List AV) (_ : W) : Option CR := none
inductive HE where
 | mk (f : FuncId) (vs : List AV) (v : AV)
def w0 : W := .mk aow (K.of 256)
end
end Go.Ev
