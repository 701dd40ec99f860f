import Derived.Test.YtkfdioikigponaaGreatDoorEvFx
set_option linter.all false
namespace Go.Ev
noncomputable section
inductive PE where
 | mk (v : AV) (rec : Bool)
inductive UM where
 | none
 | ret
 | pan (ch : List PE)
inductive FSt where
 | mk (τ : F) (ds : List AD) (um : UM) (w : W)
inductive Ctx where
 | mk (fn nt : Nat) (dfr : Bool) (round : Option K)
def Ctx.nt (C : Ctx) : Nat := Ctx.rec (motive := fun _ => Nat) (fun _ nt _ _ => nt) C
def Ctx.fn (C : Ctx) : Nat := Ctx.rec (motive := fun _ => Nat) (fun fn _ _ _ => fn) C
def Ctx.dfr (C : Ctx) : Bool := Ctx.rec (motive := fun _ => Bool) (fun _ _ d _ => d) C
def Ctx.round (C : Ctx) : Option K := Ctx.rec (motive := fun _ => Option K) (fun _ _ _ r => r) C
inductive R where
 | n (S : FSt)
 | x (id : Nat) (S : FSt)
 | r (S : FSt)
 | p (ch : List PE) (S : FSt)
 | no (c f : Nat)
inductive CR where
 | ret (v : AV) (w : W)
 | pan (ch : List PE) (w : W)
 | no (c f : Nat)
structure Ih where
 hook : FuncId → List AV → W → Option CR
 run : Code → Ctx → FSt → R
 lp : Ctx → Code → FSt → Option R
instance : CoeFun Ih (fun _ => Code → Ctx → FSt → R) := ⟨Ih.run⟩
abbrev Oh := Ih → List Oper → Ctx → FSt → R
def apz (τ : F) (w : W) : ResultVar → Option AV
 | .tmp t => some (gy t τ)
 | .cell a t => match gy a τ with
   | .ptr b o => (match u4 t (.ptr b o) w with
     | .val v _ => some v
     | _ => none)
   | _ => none
def ajy (τ : F) (w : W) : List ResultVar → Option (List AV)
 | [] => some []
 | r :: rs => (apz τ w r).bind fun v => (ajy τ w rs).map (v :: ·)
def bol : List AV → AV
 | [v] => v
 | vs => .tuple vs
def results (fn : Func) (τ : F) (w : W) : CR := match ajy τ w fn.results.toList with
 | some vs => .ret (bol vs) w
 | none => .no 200 0
def settle : UM → UM
 | .pan (.mk _ true :: _) => .ret
 | u => u
def raised (u : UM) (ch : List PE) : UM := match u with
 | .pan old => .pan (ch ++ old)
 | _ => .pan ch
inductive DR where
 | ret (u : UM) (w : W)
 | pan (ch : List PE) (u : UM) (w : W)
 | no (c f : Nat)
def wn (f : FuncId) : Option (Func × Code) := match alu f with
 | some fn => match fn.body with
   | some c => bc (Nat.ble fn.ntmps 512) (some (fn, c)) none
   | none => none
 | none => none
def ah5 (ih : Ih) (fn : Func) (c : Code) (f : FuncId) (vs : List AV) (dfr : Bool) (u : UM) (w : W) : R :=
 bc (Nat.ble (b7 vs) fn.ntmps) (ih c (.mk f fn.ntmps dfr none) (.mk (qy vs 0 o6) [] u w)) (.no 201 f)
def adr (fn : Func) (r : R) : DR := match r with
 | .n (.mk τ [] u w) | .r (.mk τ [] u w) => (match results fn τ w with | .ret _ _ => .ret u w | _ => .no 202 0)
 | .p ch (.mk _ [] u w) => .pan ch u w
 | .no c f => .no c f
 | _ => .no 203 0
def akq (ih : Ih) (f : FuncId) (vs : List AV) (u : UM) (w : W) : DR := match wn f with
 | some (fn, c) => adr fn (ah5 ih fn c f vs true u w)
 | none => .no 204 f
def o5 (ih : Ih) (fn : Func) (τ : F) : List AD → UM → W → CR
 | [], .ret, w => results fn τ w
 | [], .pan ch, w => .pan ch w
 | [], .none, _ => .no 205 0
 | .call (.func f) cap args :: ds, u, w => (match u1 f (args ++ cap) w with
   | .call f vs w => (match akq ih f vs u w with
     | .ret u' w' => o5 ih fn τ ds (settle u') w'
     | .pan ch u' w' => o5 ih fn τ ds (raised u' ch) w'
     | .no c f => .no c f)
   | _ => .no 206 0)
 | .coll b :: ds, u, w => (match db b w with
   | .deferred (some []) => o5 ih fn τ ds u (wset b (.deferred none) w)
   | _ => .no 206 1)
 | _ :: _, _, _ => .no 207 0
def a8e (ih : Ih) (fn : Func) (r : R) : CR := match r with
 | .n (.mk τ ds _ w) | .r (.mk τ ds _ w) => o5 ih fn τ ds .ret w
 | .p ch (.mk τ ds _ w) => o5 ih fn τ ds (.pan ch) w
 | .no c f => .no c f
 | _ => .no 208 0
def bbl (ih : Ih) (f : FuncId) (vs : List AV) (w : W) (b : Func × Code) : CR := a8e ih b.1 (ah5 ih b.1 b.2 f vs false .none w)
def ara (ih : Ih) (f : FuncId) (vs : List AV) (w : W) : CR := match wn f with
 | some b => bbl ih f vs w b
 | none => .no 209 f
def bra : AV → Bool
 | .bool _ => true
 | .int _ _ => true
 | .str _ _ => true
 | .nilPtr => true
 | .nilSlice => true
 | .nilMap => true
 | .nilIface => true
 | .nilFunc => true
 | _ => false
def au0 : List AV → Bool
 | [] => true
 | v :: l => bc (bra v) (au0 l) false
def oq : List SA → List SA → Bool
 | [], [] => true
 | .mk lt a b r :: l, .mk lt' a' b' r' :: m => bc (zn lt lt') (bc (fy a a') (bc (fy b b') (bc (zn r r') (oq l m) false) false) false) false
 | _, _ => false
def ao7 : List (Nat × Nat) → List (Nat × Nat) → Bool
 | [], [] => true
 | p :: l, q :: m => bc (Nat.beq p.1 q.1) (bc (Nat.beq p.2 q.2) (ao7 l m) false) false
 | _, _ => false
def ax8 : GV → GV → Bool
 | .str g A, .str g' A' => bc (na g g') (oq A A') false
 | .sl b es n A, .sl b' es' n' A' => bc (K.beq b b') (bc (Nat.beq es es') (bc (fy n n') (oq A A') false) false) false
 | .ptr b es i o A, .ptr b' es' i' o' A' => bc (K.beq b b') (bc (Nat.beq es es') (bc (fy i i') (bc (Nat.beq o o') (oq A A') false) false) false) false
 | .sr b o n A, .sr b' o' n' A' => bc (K.beq b b') (bc (fy o o') (bc (fy n n') (oq A A') false) false) false
 | .pr b o i A, .pr b' o' i' A' => bc (K.beq b b') (bc (fy o o') (bc (fy i i') (oq A A') false) false) false
 | _, _ => false
def a1j : AV → AV → Bool
 | .bool a, .bool b => (match a, b with | true, true => true | false, false => true | _, _ => false)
 | .int k m, .int l n => bc (qp k l) (aeh m n) false
 | .str l n, .str l' n' => sEq l n l' n'
 | .nilPtr, .nilPtr => true
 | .ptr b o, .ptr b' o' => bc (K.beq b b') (Nat.beq o o') false
 | .nilSlice, .nilSlice => true
 | .slice b o len cap none, .slice b' o' len' cap' none => bc (K.beq b b') (bc (Nat.beq o o') (bc (Nat.beq len len') (Nat.beq cap cap') false) false) false
 | .slice b o len cap (some e), .slice b' o' len' cap' (some e') => bc (K.beq b b') (bc (Nat.beq o o') (bc (Nat.beq len len') (bc (Nat.beq cap cap') (Nat.beq e e') false) false) false) false
 | .nilMap, .nilMap => true
 | .map b, .map b' => K.beq b b'
 | .nilFunc, .nilFunc => true
 | .nilIface, .nilIface => true
 | .wse b, .wse b' => K.beq b b'
 | .sym k e A, .sym k' e' A' => bc (qp k k') (bc (fy e e') (oq A A') false) false
 | .sx c e A, .sx c' e' A' => bc (Nat.beq c c') (bc (fy e e') (ao7 A A') false) false
 | .gv x, .gv y => ax8 x y
 | .wsl b k d n, .wsl b' k' d' n' => bc (K.beq b b') (bc (K.beq k k') (bc (Nat.beq d d') (Nat.beq n n') false) false) false
 | .wptr b k i, .wptr b' k' i' => bc (K.beq b b') (bc (K.beq k k') (Nat.beq i i') false) false
 | .esl, .esl => true
 | .top, .top => true
 | _, _ => false
def aai (f : AV → AV → Bool) : List AV → List AV → Bool
 | [], [] => true
 | a :: l, b :: m => bc (f a b) (aai f l m) false
 | _, _ => false
def a9l : Fn → Fn → Bool
 | .func f, .func g => Nat.beq f g
 | _, _ => false
def al0 : Nat → AV → AV → Bool
 | 0, _, _ => false
 | n + 1, a, b => match a, b with
   | .agg l, .agg m => aai (al0 n) l m
   | .tuple l, .tuple m => aai (al0 n) l m
   | .iface t x, .iface t' y => bc (Nat.beq t t') (al0 n x y) false
   | .func f x y, .func g x' y' => bc (a9l f g) (bc (aai (al0 n) x x') (aai (al0 n) y y') false) false
   | a, b => a1j a b
def bat (a b : AV) : Bool := al0 8 a b
inductive LE where
 | mk (g : Nat) (cells : List AV)
abbrev ctA : List AV := [.int .u8 128, .int .u8 191, .int .u8 160, .int .u8 191, .int .u8 128, .int .u8 159, .int .u8 144, .int .u8 191, .int .u8 128, .int .u8 143, .int .u8 0, .int .u8 0, .int .u8 0, .int .u8 0, .int .u8 0, .int .u8 0, .int .u8 0, .int .u8 0, .int .u8 0, .int .u8 0, .int .u8 0, .int .u8 0, .int .u8 0, .int .u8 0, .int .u8 0, .int .u8 0, .int .u8 0, .int .u8 0, .int .u8 0, .int .u8 0, .int .u8 0, .int .u8 0]
abbrev ctB : List AV := [.int .u8 240, .int .u8 240, .int .u8 240, .int .u8 240, .int .u8 240, .int .u8 240, .int .u8 240, .int .u8 240, .int .u8 240, .int .u8 240, .int .u8 240, .int .u8 240, .int .u8 240, .int .u8 240, .int .u8 240, .int .u8 240, .int .u8 240, .int .u8 240, .int .u8 240, .int .u8 240, .int .u8 240, .int .u8 240, .int .u8 240, .int .u8 240, .int .u8 240, .int .u8 240, .int .u8 240, .int .u8 240, .int .u8 240, .int .u8 240, .int .u8 240, .int .u8 240, .int .u8 240, .int .u8 240, .int .u8 240, .int .u8 240, .int .u8 240, .int .u8 240, .int .u8 240, .int .u8 240, .int .u8 240, .int .u8 240, .int .u8 240, .int .u8 240, .int .u8 240, .int .u8 240, .int .u8 240, .int .u8 240, .int .u8 240, .int .u8 240, .int .u8 240, .int .u8 240, .int .u8 240, .int .u8 240, .int .u8 240, .int .u8 240, .int .u8 240, .int .u8 240, .int .u8 240, .int .u8 240, .int .u8 240, .int .u8 240, .int .u8 240, .int .u8 240, .int .u8 240, .int .u8 240, .int .u8 240, .int .u8 240, .int .u8 240, .int .u8 240, .int .u8 240, .int .u8 240, .int .u8 240, .int .u8 240, .int .u8 240, .int .u8 240, .int .u8 240, .int .u8 240, .int .u8 240, .int .u8 240, .int .u8 240, .int .u8 240, .int .u8 240, .int .u8 240, .int .u8 240, .int .u8 240, .int .u8 240, .int .u8 240, .int .u8 240, .int .u8 240, .int .u8 240, .int .u8 240, .int .u8 240, .int .u8 240, .int .u8 240, .int .u8 240, .int .u8 240, .int .u8 240, .int .u8 240, .int .u8 240, .int .u8 240, .int .u8 240, .int .u8 240, .int .u8 240, .int .u8 240, .int .u8 240, .int .u8 240, .int .u8 240, .int .u8 240, .int .u8 240, .int .u8 240, .int .u8 240, .int .u8 240, .int .u8 240, .int .u8 240, .int .u8 240, .int .u8 240, .int .u8 240, .int .u8 240, .int .u8 240, .int .u8 240, .int .u8 240, .int .u8 240, .int .u8 240, .int .u8 240, .int .u8 240, .int .u8 240, .int .u8 240, .int .u8 241, .int .u8 241, .int .u8 241, .int .u8 241, .int .u8 241, .int .u8 241, .int .u8 241, .int .u8 241, .int .u8 241, .int .u8 241, .int .u8 241, .int .u8 241, .int .u8 241, .int .u8 241, .int .u8 241, .int .u8 241, .int .u8 241, .int .u8 241, .int .u8 241, .int .u8 241, .int .u8 241, .int .u8 241, .int .u8 241, .int .u8 241, .int .u8 241, .int .u8 241, .int .u8 241, .int .u8 241, .int .u8 241, .int .u8 241, .int .u8 241, .int .u8 241, .int .u8 241, .int .u8 241, .int .u8 241, .int .u8 241, .int .u8 241, .int .u8 241, .int .u8 241, .int .u8 241, .int .u8 241, .int .u8 241, .int .u8 241, .int .u8 241, .int .u8 241, .int .u8 241, .int .u8 241, .int .u8 241, .int .u8 241, .int .u8 241, .int .u8 241, .int .u8 241, .int .u8 241, .int .u8 241, .int .u8 241, .int .u8 241, .int .u8 241, .int .u8 241, .int .u8 241, .int .u8 241, .int .u8 241, .int .u8 241, .int .u8 241, .int .u8 241, .int .u8 241, .int .u8 241, .int .u8 2, .int .u8 2, .int .u8 2, .int .u8 2, .int .u8 2, .int .u8 2, .int .u8 2, .int .u8 2, .int .u8 2, .int .u8 2, .int .u8 2, .int .u8 2, .int .u8 2, .int .u8 2, .int .u8 2, .int .u8 2, .int .u8 2, .int .u8 2, .int .u8 2, .int .u8 2, .int .u8 2, .int .u8 2, .int .u8 2, .int .u8 2, .int .u8 2, .int .u8 2, .int .u8 2, .int .u8 2, .int .u8 2, .int .u8 2, .int .u8 19, .int .u8 3, .int .u8 3, .int .u8 3, .int .u8 3, .int .u8 3, .int .u8 3, .int .u8 3, .int .u8 3, .int .u8 3, .int .u8 3, .int .u8 3, .int .u8 3, .int .u8 35, .int .u8 3, .int .u8 3, .int .u8 52, .int .u8 4, .int .u8 4, .int .u8 4, .int .u8 68, .int .u8 241, .int .u8 241, .int .u8 241, .int .u8 241, .int .u8 241, .int .u8 241, .int .u8 241, .int .u8 241, .int .u8 241, .int .u8 241, .int .u8 241]
def laidL : List LE := [.mk 1 ctA, .mk 0 ctB]
def ql : List LE → W → Bool
 | [], _ => true
 | .mk g cs :: l, w => (match db (K.of g) w with
   | .ro t _ _ => bc (Nat.beq t (Nat.succ g)) (ql l w) false
   | _ => false)
def ly : List LE → H4
 | [] => ajr
 | .mk g cs :: l => ca (K.of g) (.ro (Nat.succ g) (b7 cs) (ml cs 0 (jo (b7 cs)))) (ly l)
def tc : List LE → Bool
 | [] => true
 | .mk g cs :: l => bc (Nat.ble g 255 && au0 cs && Nat.ble (b7 cs) 65536) (tc l) false
def wS : W := .mk (ly laidL) (K.of 256)
def bw2 (o : Option CR) : Ih → FuncId → List AV → W → CR := Option.rec (motive := fun _ => Ih → FuncId → List AV → W → CR) ara (fun r _ _ _ _ => r) o
def enter (ih : Ih) (f : FuncId) (vs : List AV) (w : W) : CR := bw2 (ih.hook f vs w) ih f vs w
def zo (nt : Nat) : List Nat → List AV → F → F
 | t :: ts, v :: vs, τ => zo nt ts vs (am8 nt t v τ)
 | _, _, τ => τ
def ake (b : K) (jump : Option Code) (st : LoopState) (v : Bool) (w : W) : CR := match db b w with
 | .loop _ _ fn nt τ ps x y kd => .ret (.bool v) (wset b (.loop st jump fn nt τ ps x y kd) w)
 | _ => .no 245 0
def aia (b : K) (fn : Nat) (r : R) : CR := match r with
 | .n (.mk _ [] _ w) => ake b none .ready true w
 | .x id (.mk _ [] _ w) => ake b (some (.exit id)) .done false w
 | .r (.mk _ [] _ w) => ake b (some .ret) .done false w
 | .p ch (.mk _ [] _ w) => bc (alu fn).isSome (.pan ch w) (.no 244 fn)
 | .no c f => .no c f
 | _ => .no 244 fn
def aq4 (ih : Ih) (b : K) (fn nt : Nat) (y : Code) (r : R) : CR := match r with
 | .n (.mk τ [] um w) => (match db b w with
   | .loop .ready pend fn' nt' τ' ps x y' kd => aia b fn (ih y (.mk fn nt false (some b)) (.mk τ [] um (wset b (.loop .busy pend fn' nt' τ' ps x y' kd) w)))
   | _ => .no 242 fn)
 | .no c f => .no c f
 | _ => .no 243 fn
def xd (ih : Ih) (b : K) (vs : List AV) (w : W) : CR := match db b w with
 | .loop _ _ fn nt τ ps x y _ => bc (Nat.beq (b7 ps) (b7 vs)) (aq4 ih b fn nt y (ih x (.mk fn nt false (some b)) (.mk (zo nt ps vs τ) [] .none w))) (.no 240 fn)
 | _ => .no 241 0
def kx (g : Nat × Bool) (all : List Oper) (τ : F) : Option Bool :=
 match (nth all g.1).bind (·.dst) with
 | some d => (match gy d τ with | .bool b => some (b == g.2) | .tuple _ => some false | _ => none)
 | none => none
def buw (v : AV) (w : W) (dst : Option Nat) (IH : Oh) (ih : Ih) (all : List Oper) (C : Ctx) (τ : F) (ds : List AD) (um : UM) : R :=
 IH ih all C (.mk (re C.nt dst v τ) ds um w)
def crK (r : CR) : Option Nat → Oh → Ih → List Oper → Ctx → F → List AD → UM → R :=
 CR.rec (motive := fun _ => Option Nat → Oh → Ih → List Oper → Ctx → F → List AD → UM → R)
  buw
  (fun ch w _ _ _ _ _ τ ds um => .p ch (.mk τ ds um w))
  (fun c f _ _ _ _ _ _ _ _ => .no c f) r
def btr (f : FuncId) (vs : List AV) (w : W) (dst : Option Nat) (IH : Oh) (ih : Ih) (all : List Oper) (C : Ctx) (τ : F) (ds : List AD) (um : UM) : R :=
 crK (enter ih f vs w) dst IH ih all C τ ds um
def b39 (b : K) (vs : List AV) (w : W) (dst : Option Nat) (IH : Oh) (ih : Ih) (all : List Oper) (C : Ctx) (τ : F) (ds : List AD) (um : UM) : R :=
 crK (xd ih b vs w) dst IH ih all C τ ds um
def b4z (v : AV) (w : W) (dst : Option Nat) (IH : Oh) (ih : Ih) (all : List Oper) (C : Ctx) (τ : F) (ds : List AD) (um : UM) : R := .p [.mk v false] (.mk τ ds um w)
def b59 (d : AD) (w : W) (dst : Option Nat) (IH : Oh) (ih : Ih) (all : List Oper) (C : Ctx) (τ : F) (ds : List AD) (um : UM) : R :=
 match C.round with
 | none => IH ih all C (.mk (re C.nt dst gx τ) (d :: ds) um w)
 | some _ => .no 211 C.fn
def atj (w : W) (dst : Option Nat) (IH : Oh) (ih : Ih) (all : List Oper) (C : Ctx) (τ : F) (ds : List AD) (um : UM) : R :=
 match C.round, C.dfr, um with
 | some _, _, _ => .no 212 C.fn
 | none, true, .pan (.mk v false :: older) => IH ih all C (.mk (re C.nt dst v τ) ds (.pan (.mk v true :: older)) w)
 | none, _, um => IH ih all C (.mk (re C.nt dst .nilIface τ) ds um w)
def orK (r : OR) : Option Nat → Oh → Ih → List Oper → Ctx → F → List AD → UM → R :=
 OR.rec (motive := fun _ => Option Nat → Oh → Ih → List Oper → Ctx → F → List AD → UM → R)
  buw btr b39 b4z b59 atj (fun c _ _ _ _ C _ _ _ => .no c C.fn) r
def oGo (dst : Option Nat) (op : Op) (IH : Oh) (ih : Ih) (all : List Oper) (C : Ctx) (S : FSt) : R :=
 FSt.rec (motive := fun _ => Option Nat → Op → Oh → Ih → List Oper → Ctx → R)
  (fun τ ds um w dst op IH ih all C => orK (gOp op τ w) dst IH ih all C τ ds um) S dst op IH ih all C
def bli (dst : Option Nat) (IH : Oh) (ih : Ih) (all : List Oper) (C : Ctx) (S : FSt) : R :=
 FSt.rec (motive := fun _ => Option Nat → Oh → Ih → List Oper → Ctx → R)
  (fun τ ds um w dst IH ih all C => IH ih all C (.mk (re C.nt dst gx τ) ds um w)) S dst IH ih all C
def bq8 (g : Nat × Bool) (dst : Option Nat) (op : Op) (IH : Oh) (ih : Ih) (all : List Oper) (C : Ctx) (S : FSt) : R :=
 match S with
 | .mk τ _ _ _ => match kx g all τ with
   | some true => oGo dst op IH ih all C S
   | some false => bli dst IH ih all C S
   | none => .no 213 C.fn
def aqi (g : Option (Nat × Bool)) : Option Nat → Op → Oh → Ih → List Oper → Ctx → FSt → R :=
 Option.rec (motive := fun _ => Option Nat → Op → Oh → Ih → List Oper → Ctx → FSt → R) oGo bq8 g
def bvj (o : Oper) : Oh → Ih → List Oper → Ctx → FSt → R :=
 Oper.rec (motive := fun _ => Oh → Ih → List Oper → Ctx → FSt → R)
  (fun dst op _ _ _ g IH ih all C S => aqi g dst op IH ih all C S) o
def tp (l : List Oper) : Oh :=
 List.rec (motive := fun _ => Oh) (fun _ _ _ S => .n S) (fun o _ IH ih all C S => bvj o IH ih all C S) l
def tb (m i : Nat) : Bool := Nat.beq (Nat.land (Nat.shiftRight m i) 1) 1
def ajd : Nat := 115792089237316195423570985008687907853269984665640564039457584007913129639936
def fld (M t : Nat) : Nat := Nat.mod (Nat.shiftRight M (Nat.mul t 256)) ajd
def auc (M t m : Nat) : Nat := Nat.lor M (Nat.shiftLeft (Nat.mod m ajd) (Nat.mul t 256))
def a8j (x y : Nat) : Bool := Nat.beq (Nat.land x y) x
def a0w : List Edge → Nat → Nat → Nat
 | [], _, s => s
 | e :: es, B, s => a0w es B (bc (Region.binds .any e) (Nat.lor (Nat.lor s (Nat.shiftLeft 1 e.on)) (fld B e.on)) s)
def bm6 : List Oper → Nat → Nat → Nat
 | [], _, B => B
 | o :: os, j, B => bm6 os (Nat.succ j) (auc B j (a0w o.after.toList B 0))
def ai6 (ops : Array Oper) : Nat := bm6 ops.toList 0 0
def dp (ops : Array Oper) (j : Nat) : Nat := fld (ai6 ops) j
def de (ops : Array Oper) (i j : Nat) : Bool := tb (dp ops j) i
inductive CL where
 | pu
 | rd
 | fl
 | ef
 | mu
def zc : Op → CL
 | .move _ => .pu
 | .assign _ => .pu
 | .fieldAddr .. => .pu
 | .extract .. => .pu
 | .nilCheck _ => .pu
 | .load .. => .rd
 | .lookup .. => .rd
 | .convert .. => .rd
 | .binOp .. => .rd
 | .unOp .. => .rd
 | .index .. => .rd
 | .indexAddr .. => .rd
 | .field .. => .rd
 | .slice .. => .rd
 | .typeAssert .. => .rd
 | .pick .. => .rd
 | .build .. => .rd
 | .makeInterface .. => .rd
 | .makeFunc .. => .rd
 | .call { callee := .builtin .len, .. } => .rd
 | .alloc _ => .fl
 | .box .. => .fl
 | .buildSlice .. => .fl
 | .makeMap .. => .fl
 | _ => .ef
inductive PM where
 | none
 | mk (i d : Nat)
def bui (t : Nat) (d : Nat) : CL := bc (Nat.beq t d) .mu .ef
def bhm (d : Nat) : Op → CL
 | .insert _ (.tmp t) _ _ => bui t d
 | op => zc op
def cls (pm : PM) (op : Op) : CL := PM.rec (motive := fun _ => Op → CL) zc (fun _ d => bhm d) pm op
def isP (pm : PM) (j : Nat) : Bool := match pm with
 | .none => false
 | .mk i _ => Nat.beq i j
def noP : PM → Bool
 | .none => true
 | .mk _ _ => false
def bql : Op → Bool
 | .makeMap _ _ => true
 | _ => false
def a5r : List Oper → Nat → PM
 | [], _ => .none
 | o :: l, i => bc (bql o.op) (match o.dst with
   | some d => .mk i d
   | none => a5r l (Nat.succ i)) (a5r l (Nat.succ i))
inductive PV where
 | none
 | mk (k : K) (es : List (AV × AV))
def al8 (a b : AV) : Bool := match o7 a b, o7 b a with
 | some false, some false => true
 | _, _ => false
def ac8 (a : AV) : List (AV × AV) → Bool
 | [] => true
 | e :: l => bc (al8 a e.1) (ac8 a l) false
def asi : List (AV × AV) → Bool
 | [] => true
 | e :: l => bc (ac8 e.1 l) (asi l) false
def a9u : PV → Bool
 | .none => true
 | .mk _ es => asi es
def a3q (k : K) : AV → Bool
 | .map b => K.beq b k
 | _ => false
def a8q (p : PV) (w : W) : W := match p with
 | .none => w
 | .mk k es => wset k (.umap es) w
def bc1 : CL → Bool
 | .ef => true
 | _ => false
def btn : CL → Bool
 | .fl => true
 | _ => false
def bbd (p : Nat → Bool) : Nat → Bool
 | 0 => true
 | n + 1 => bc (p n) (bbd p n) false
def o9 (pm : PM) : List Oper → Nat
 | [] => 0
 | o :: l => bc (btn (cls pm o.op)) (o9 pm l + 1) (o9 pm l)
def adj (ops : Array Oper) : Nat := b7 ops.toList
def aat (pm : PM) : List Oper → Nat → List Nat
 | [], _ => []
 | o :: l, j => bc (bc1 (cls pm o.op)) (j :: aat pm l (Nat.succ j)) (aat pm l (Nat.succ j))
def bob (pm : PM) (ops : Array Oper) : List Nat := aat pm ops.toList 0
def ast (p : Nat → Bool) : List Nat → Bool
 | [] => true
 | x :: l => bc (p x) (ast p l) false
def agi (pm : PM) (ops : Array Oper) (j e : Nat) : Bool :=
 ast (fun x => bc (bc (de ops x j) (Nat.blt x e) true) (bc (Nat.blt x e) (al1 (de ops j x)) true) false) (bob pm ops)
def vl (pm : PM) (ops : Array Oper) (j : Nat) : Bool :=
 al1 (ast (fun x => bc (bc (Nat.blt x j) (de ops x j) true) (bc (Nat.blt j x) (de ops j x) true) false) (bob pm ops))
def aet : List Operand → List Nat
 | [] => []
 | .tmp t :: l => t :: aet l
 | _ :: l => aet l
def o0 (all : List Oper) (o : Oper) : List Nat :=
 aet o.op.operands.toList ++ (o.dst.toList ++ (match o.guard with
  | some g => ((nth all g.1).bind (·.dst)).toList
  | none => []))
def abp (j : Nat) : List Edge → Bool
 | [] => true
 | e :: l => bc (bc (Region.binds .any e) (Nat.blt e.on j) true) (abp j l) false
def avv (Wm b : Nat) : List Nat → Bool
 | [] => true
 | t :: l => bc (a8j (fld Wm t) b) (avv Wm b l) false
def bso (Rm b : Nat) : Option Nat → Bool
 | none => true
 | some d => a8j (fld Rm d) b
def buz (Wm j : Nat) : Option Nat → Nat
 | none => Wm
 | some d => auc Wm d (Nat.shiftLeft 1 j)
def bnf (j : Nat) : List Nat → Nat → Nat
 | [], Rm => Rm
 | t :: l, Rm => bnf j l (auc Rm t (Nat.shiftLeft 1 j))
def a21 (pm : PM) (all : List Oper) (B : Nat) : List Oper → Nat → Nat → Nat → Nat → Bool
 | [], _, _, _, _ => true
 | o :: os, j, Wm, Rm, Em =>
   bc (abp j o.after.toList) (bc (avv Wm (fld B j) (o0 all o)) (bc (bso Rm (fld B j) o.dst) (bc (bc (bc1 (cls pm o.op)) (a8j Em (fld B j)) true)
    (a21 pm all B os (Nat.succ j) (buz Wm j o.dst) (bnf j (o0 all o) Rm) (bc (bc1 (cls pm o.op)) (Nat.lor Em (Nat.shiftLeft 1 j)) Em)) false) false) false) false
def zx (pm : PM) (ops : Array Oper) : Bool := bc (Nat.ble (adj ops) 256) (a21 pm ops.toList (ai6 ops) ops.toList 0 0 0 0) false
def dummy : Oper := { dst := none, op := .move (.func 0), type := 0, pos := "", after := #[], guard := none }
def mp (B p : Nat) : List Oper → Nat → List Oper
 | [], _ => []
 | o :: l, j => bc (tb (fld B j) p) dummy o :: mp B p l (Nat.succ j)
def fb (ops : Array Oper) (p : Nat) : Array Oper := (mp (ai6 ops) p ops.toList 0).toArray
def aig (ops : Array Oper) (p : Nat) (o : Oper) : Bool := match o.guard with
 | some g => al1 (de ops p g.1)
 | none => true
def bjq (ops opsT : Array Oper) (p j : Nat) : Bool := bc (de ops p j) true (bc (Nat.beq (dp ops j) (dp opsT j)) (bc (bc (vl .none opsT j) (vl .none ops j) true) (match nth ops.toList j with
 | some o => aig ops p o
 | none => true) false) false)
def a96 (ops opsT : Array Oper) (p : Nat) : Bool := bc (zx .none opsT) (bc (bbd (fun j => al1 (de ops p j)) (Nat.succ p)) (bbd (bjq ops opsT p) (adj ops)) false) false
def aah (nt : Nat) : List Oper → F → F
 | [], τ => τ
 | o :: l, τ => aah nt l (re nt o.dst .top τ)
inductive PF where
 | mk (i : Nat) (k : K) (o : AObj)
inductive RC where
 | mk (i : Nat) (op : Op) (τ : F) (v : AV)
inductive DS where
 | mk (τ : F) (w : W) (fk : K) (pend : List PF) (hist : List (Nat × W)) (recs : List RC) (pv : PV)
inductive DX where
 | ok (s : DS)
 | pan (ch : List PE) (w : W) (p : Nat) (s : DS)
 | no (c f : Nat)
def dx (m : Nat) : List PF → W → W
 | [], w => w
 | .mk i k o :: l, w => bc (tb m i) (wset k o (dx m l w)) (dx m l w)
def w8 (m : Nat) : List PF → List PF
 | [] => []
 | .mk i k o :: l => bc (tb m i) (w8 m l) (.mk i k o :: w8 m l)
def ajg : List PF → W → W
 | [], w => w
 | .mk _ k o :: l, w => wset k o (ajg l w)
def hOf : W → H4 | .mk h _ => h
def bbm (o : Oper) (nt fn : Nat) : DS → DX
 | .mk τ w fk pend hist recs pv => match gD o.op τ w with
   | .val v _ => .ok (.mk (re nt o.dst v τ) w fk pend hist recs pv)
   | .no c => .no c fn
   | _ => .no 230 fn
def a86 (pm : PM) (ops : Array Oper) (i : Nat) (o : Oper) (nt fn : Nat) : DS → DX
 | .mk τ w fk pend hist recs pv => match gD o.op τ w with
   | .val v _ => .ok (.mk (re nt o.dst v τ) w fk pend hist (bc (vl pm ops i) (.mk i o.op τ v :: recs) recs) pv)
   | .no c => .no c fn
   | _ => .no 231 fn
def bae : AObj → Bool
 | .map [] => true
 | _ => false
def awh (pm : PM) (i : Nat) (o : Oper) (nt fn : Nat) : DS → DX
 | .mk τ w fk pend hist recs pv => match gD o.op τ (.mk (hOf w) fk) with
   | .val v (.mk h' _) => bc (isP pm i)
      (bc (bae (ae fk h')) (.ok (.mk (re nt o.dst v τ) w fk.succ pend hist recs (.mk fk []))) (.no 239 fn))
      (.ok (.mk (re nt o.dst v τ) w fk.succ (.mk i fk (ae fk h') :: pend) hist recs pv))
   | .no c => .no c fn
   | _ => .no 232 fn
def dMu (o : Oper) (nt fn : Nat) : DS → DX
 | .mk τ w fk pend hist recs (.mk k es) => (match o.op, o.guard with
   | .insert t m x y, none => bc (mj t && am9 t (evX x τ) && a3q k (evX m τ))
      (.ok (.mk (re nt o.dst gx τ) w fk pend hist recs (.mk k (es ++ [(evX x τ, evX y τ)])))) (.no 229 fn)
   | _, _ => .no 228 fn)
 | _ => .no 227 fn
def bf8 (pm : PM) (ih : Ih) (ops : Array Oper) (i : Nat) (o : Oper) (nt fn : Nat) : DS → DX
 | .mk τ w fk pend hist recs pv => match gD o.op τ (dx (dp ops i) pend w) with
   | .val v w' => .ok (.mk (re nt o.dst v τ) w' fk (w8 (dp ops i) pend) ((i, w) :: hist) recs pv)
   | .call f vs w' => (match enter ih f vs w' with
     | .ret v w'' => .ok (.mk (re nt o.dst v τ) w'' fk (w8 (dp ops i) pend) ((i, w) :: hist) recs pv)
     | .no c f => .no c f
     | .pan ch w'' => bc (noP pm) (.pan ch w'' i (.mk (re nt o.dst .top τ) (dx (dp ops i) pend w) fk (w8 (dp ops i) pend) ((i, w) :: hist) recs pv)) (.no 233 fn))
   | .no c => .no c fn
   | _ => .no 234 fn
def dGo (pm : PM) (ih : Ih) (ops : Array Oper) (i : Nat) (o : Oper) (nt fn : Nat) (s : DS) : DX := match cls pm o.op with
 | .pu => bbm o nt fn s
 | .rd => a86 pm ops i o nt fn s
 | .fl => awh pm i o nt fn s
 | .ef => bf8 pm ih ops i o nt fn s
 | .mu => dMu o nt fn s
def a98 (pm : PM) (ops : Array Oper) (i : Nat) (o : Oper) (nt : Nat) : DS → DX
 | .mk τ w fk pend hist recs pv => match cls pm o.op with
   | .ef => .ok (.mk (re nt o.dst gx τ) (dx (dp ops i) pend w) fk (w8 (dp ops i) pend) ((i, w) :: hist) recs pv)
   | .mu => .no 226 0
   | _ => .ok (.mk (re nt o.dst gx τ) w fk pend hist recs pv)
def DS.τ : DS → F | .mk τ .. => τ
def DS.w : DS → W | .mk _ w .. => w
def DS.fk : DS → K | .mk _ _ fk .. => fk
def DS.pend : DS → List PF | .mk _ _ _ p .. => p
def DS.hist : DS → List (Nat × W) | .mk _ _ _ _ h .. => h
def DS.recs : DS → List RC | .mk _ _ _ _ _ r _ => r
def DS.pv : DS → PV | .mk _ _ _ _ _ _ p => p
def sg (pm : PM) (ih : Ih) (ops : Array Oper) (i : Nat) (o : Oper) (nt fn : Nat) (s : DS) : DX := match o.guard with
 | none => dGo pm ih ops i o nt fn s
 | some g => match kx g ops.toList s.τ with
   | some true => dGo pm ih ops i o nt fn s
   | some false => a98 pm ops i o nt s
   | none => .no 235 fn
def a8n (r : DX) (k : DS → DX) : DX := match r with
 | .ok s => k s
 | .pan ch w p s => .pan ch w p s
 | .no c f => .no c f
def alh (pm : PM) (ih : Ih) (ops : Array Oper) (nt fn : Nat) : List Oper → Nat → DS → DX
 | [], _, s => .ok s
 | o :: l, i, s => a8n (sg pm ih ops i o nt fn s) (alh pm ih ops nt fn l (i + 1))
def baw (op : Op) (τ : F) (v : AV) (w : W) : Bool := match gD op τ w with
 | .val v' _ => bat v v'
 | _ => false
def a9j (pm : PM) (ops : Array Oper) : RC → List (Nat × W) → Bool
 | _, [] => true
 | .mk i op τ v, (e, w) :: l => bc (bc (agi pm ops i e) (baw op τ v w) true) (a9j pm ops (.mk i op τ v) l) false
def zk (pm : PM) (ops : Array Oper) : List RC → List (Nat × W) → Bool
 | [], _ => true
 | r :: l, h => bc (a9j pm ops r h) (zk pm ops l h) false
def aue (ops opsT : Array Oper) (fn nt : Nat) (τ0 : F) (ds : List AD) (um : UM) (ch : List PE) (w2 : W) : DX → R
 | .ok (.mk _ w _ _ hist recs _) => bc (zk .none opsT recs ((adj ops, w) :: hist)) (.p ch (.mk (aah nt ops.toList τ0) ds um w2)) (.no 236 fn)
 | .pan _ _ _ _ => .no 225 fn
 | .no c f => .no c f
def a2j (ih : Ih) (ops opsT : Array Oper) (fn nt : Nat) (τ0 : F) (ds : List AD) (um : UM) (ch : List PE) (w2 : W) (p : Nat) (s : DS) : R :=
 bc (a96 ops opsT p) (aue ops opsT fn nt τ0 ds um ch w2 (alh .none ih opsT nt fn (opsT.toList.drop (Nat.succ p)) (Nat.succ p) s)) (.no 233 fn)
def bot (pm : PM) (ih : Ih) (ops : Array Oper) (fn nt : Nat) (τ0 : F) (ds : List AD) (um : UM) : DX → R
 | .ok (.mk τ w _ pend hist recs pv) => bc (zk pm ops recs ((adj ops, w) :: hist) && a9u pv) (.n (.mk τ ds um (a8q pv (ajg pend w)))) (.no 236 fn)
 | .pan ch w2 p s => a2j ih ops (fb ops p) fn nt τ0 ds um ch w2 p s
 | .no c f => .no c f
def atm : Nat → K → Option K
 | 0, k => some k
 | n + 1, k => bc k.isMax none (atm n k.succ)
def akd (pm : PM) (ih : Ih) (ops : Array Oper) (nt fn : Nat) (τ : F) (h : H4) (nx : K) (ds : List AD) (um : UM) : Option K → R
 | some nx' => bot pm ih ops fn nt τ ds um (alh pm ih ops nt fn ops.toList 0 (.mk τ (.mk h nx') nx [] [] [] .none))
 | none => .no 237 fn
def akm (pm : PM) (ops : Array Oper) (ih : Ih) (C : Ctx) : FSt → R
 | .mk τ ds um (.mk h nx) => bc (zx pm ops) (akd pm ih ops C.nt C.fn τ h nx ds um (atm (o9 pm ops.toList) nx)) (.no 238 C.fn)
def azg (_ : Nat) (ops : Array Oper) (ih : Ih) (C : Ctx) (S : FSt) : R := bc (zx .none ops) (akm .none ops ih C S) (akm (a5r ops.toList 0) ops ih C S)
def bq4 (_ : Nat) (ops : Array Oper) (ih : Ih) (C : Ctx) (S : FSt) : R := tp ops.toList ih ops.toList C S
def bdn (id : Nat) (ops : Array Oper) (draw : Bool) : Ih → Ctx → FSt → R := Bool.rec (motive := fun _ => Nat → Array Oper → Ih → Ctx → FSt → R) bq4 azg draw id ops
def akg (r : R) : Ih → Code → Ctx → R := R.rec (motive := fun _ => Ih → Code → Ctx → R)
 (fun S ih b C => ih b C S) (fun id S _ _ _ => .x id S) (fun S _ _ _ => .r S) (fun ch S _ _ _ => .p ch S) (fun c f _ _ _ => .no c f) r
abbrev Rh := Ih → Ctx → FSt → R
def b34 (a b : Code) (_ _ : Rh) (ih : Ih) (C : Ctx) (S : FSt) : R := akg (ih a C S) ih b C
def ba4 (v : AV) (x y : Code) (ih : Ih) (C : Ctx) (S : FSt) : R := match v with
 | .bool b => ih (bc b x y) C S
 | _ => .no 214 C.fn
def FSt.τ (S : FSt) : F := FSt.rec (motive := fun _ => F) (fun τ _ _ _ => τ) S
def bul (c : Operand) (x y : Code) (_ _ : Rh) (ih : Ih) (C : Ctx) (S : FSt) : R := ba4 (evX c S.τ) x y ih C S
def awc (r : R) : Nat → R := R.rec (motive := fun _ => Nat → R)
 (fun S _ => .n S) (fun id' S id => bc (Nat.beq id' id) (.n S) (.x id' S)) (fun S _ => .r S) (fun ch S _ => .p ch S) (fun c f _ => .no c f) r
def bqt (id : Nat) (b : Code) (_ : Rh) (ih : Ih) (C : Ctx) (S : FSt) : R := awc (ih b C S) id
def w5 (b : Code) (ih : Ih) (C : Ctx) (S : FSt) : R := akg (ih b C S) ih (.loop b) C
def azb (o : Option R) : Code → Ih → Ctx → FSt → R := Option.rec (motive := fun _ => Code → Ih → Ctx → FSt → R) w5 (fun r _ _ _ _ => r) o
def bv4 (b : Code) (_ : Rh) (ih : Ih) (C : Ctx) (S : FSt) : R := azb (ih.lp C b S) b ih C S
def bby : LoopState → Bool
 | .busy => true
 | _ => false
def baa (τ : F) (ds : List AD) (um : UM) (kl : K) (r : CR) : R := match r with
 | .ret _ w => (match db kl w with
   | .loop st pend fn nt τ' ps x y kd => bc (bby st) (.no 248 fn) (match pend with
     | none => .n (.mk τ ds um (wset kl (.loop .exhausted pend fn nt τ' ps x y kd) w))
     | some (.exit id) => .x id (.mk τ ds um (wset kl (.loop .exhausted pend fn nt τ' ps x y kd) w))
     | some .ret => .r (.mk τ ds um (wset kl (.loop .exhausted pend fn nt τ' ps x y kd) w))
     | _ => .no 249 fn)
   | _ => .no 250 0)
 | .pan ch w => .p ch (.mk τ ds um w)
 | .no c f => .no c f
def aju (ih : Ih) (fn : Nat) (τ : F) (ds : List AD) (um : UM) (kl : K) (r : OR) : R := match r with
 | .call g vs w => baa τ ds um kl (enter ih g vs w)
 | _ => .no 247 fn
def aqy (f : Operand) (ps : Array Tmp) (x y : Code) (ih : Ih) (C : Ctx) (S : FSt) : R := match S, C.round with
 | .mk τ ds um (.mk h nx), none => bc nx.isMax (.no 246 0) (bc nx.succ.isMax (.no 246 1)
    (aju ih C.fn τ (.coll nx :: ds) um nx.succ (ae1 (evX f τ) [.func (.yield nx.succ.num) [] []] (.mk (ca nx.succ (.loop .ready none C.fn C.nt τ ps.toList x y nx) (ca nx (.deferred (some [])) h)) nx.succ.succ))))
 | _, _ => .no 246 2
def bkp (ih : Ih) (c : Code) : Ctx → FSt → R := Code.rec (motive := fun _ => Rh)
 (fun _ _ S => .n S) bdn b34 bul bqt bv4 (fun f ps x y _ _ => aqy f ps x y) (fun id _ _ S => .x id S)
 (fun _ _ _ C _ => .no 216 C.fn) (fun _ _ _ S => .n S) (fun _ _ C _ => .no 217 C.fn) (fun _ _ S => .r S) (fun _ _ C _ => .no 218 C.fn) c ih
abbrev afn := FuncId → List AV → W → Option CR
abbrev vj := Ctx → Code → FSt → Option R
def bud (_ : Ctx) (_ : Code) (_ : FSt) : Option R := none
def b4d (H : afn) (L : vj) (n : Nat) : Code → Ctx → FSt → R := Nat.rec (motive := fun _ => Code → Ctx → FSt → R) (fun _ _ _ => .no 219 0) (fun _ r => bkp (Ih.mk H r L)) n
def alr (H : afn) (L : vj) (n : Nat) : Ih := Ih.mk H (b4d H L n) L
def run (H : afn) (n : Nat) : Ih := alr H bud n
def aes (_ : FuncId) (_ : List AV) (_ : W) : Option CR := none
inductive HE where
 | mk (f : FuncId) (vs : List AV) (v : AV)
def ayl (r : CR) (v : AV) : Bool := match r with
 | .ret v' _ => bat v v'
 | _ => false
def w0 : W := .mk ajr (K.of 256)
end
end Go.Ev
