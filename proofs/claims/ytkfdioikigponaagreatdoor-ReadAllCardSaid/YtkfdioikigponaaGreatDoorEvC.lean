import Derived.Test.YtkfdioikigponaaGreatDoorEvFx
set_option linter.all false
namespace Go.Ev
noncomputable section
inductive PE where
 | mk (v : AV) (rec : Bool)
inductive UM where
 | none
 | ret
 | pan (ch : List PE)
inductive FSt where
 | mk (τ : F) (ds : List AD) (um : UM) (w : W)
inductive Ctx where
 | mk (fn nt : Nat) (dfr : Bool) (round : Option K)
def Ctx.nt (C : Ctx) : Nat := Ctx.rec (motive := fun _ => Nat) (fun _ nt _ _ => nt) C
def Ctx.fn (C : Ctx) : Nat := Ctx.rec (motive := fun _ => Nat) (fun fn _ _ _ => fn) C
def Ctx.dfr (C : Ctx) : Bool := Ctx.rec (motive := fun _ => Bool) (fun _ _ d _ => d) C
def Ctx.round (C : Ctx) : Option K := Ctx.rec (motive := fun _ => Option K) (fun _ _ _ r => r) C
inductive R where
 | n (S : FSt)
 | x (id : Nat) (S : FSt)
 | r (S : FSt)
 | p (ch : List PE) (S : FSt)
 | no (c f : Nat)
inductive CR where
 | ret (v : AV) (w : W)
 | pan (ch : List PE) (w : W)
 | no (c f : Nat)
structure Ih where
 hook : FuncId → List AV → W → Option CR
 run : Code → Ctx → FSt → R
 lp : Ctx → Code → FSt → Option R
instance : CoeFun Ih (fun _ => Code → Ctx → FSt → R) := ⟨Ih.run⟩
abbrev Oh := Ih → List Oper → Ctx → FSt → R
def ax5 (τ : F) (w : W) : ResultVar → Option AV
 | .tmp t => some (jr t τ)
 | .cell a t => match jr a τ with
   | .ptr b o => (match abj t (.ptr b o) w with
     | .val v _ => some v
     | _ => none)
   | _ => none
def ap1 (τ : F) (w : W) : List ResultVar → Option (List AV)
 | [] => some []
 | r :: rs => (ax5 τ w r).bind fun v => (ap1 τ w rs).map (v :: ·)
def b12 : List AV → AV
 | [v] => v
 | vs => .tuple vs
def results (fn : Func) (τ : F) (w : W) : CR := match ap1 τ w fn.results.toList with
 | some vs => .ret (b12 vs) w
 | none => .no 200 0
def settle : UM → UM
 | .pan (.mk _ true :: _) => .ret
 | u => u
def raised (u : UM) (ch : List PE) : UM := match u with
 | .pan old => .pan (ch ++ old)
 | _ => .pan ch
inductive DR where
 | ret (u : UM) (w : W)
 | pan (ch : List PE) (u : UM) (w : W)
 | no (c f : Nat)
def ac2 (f : FuncId) : Option (Func × Code) := match asv f with
 | some fn => match fn.body with
   | some c => bc (Nat.ble fn.ntmps 512) (some (fn, c)) none
   | none => none
 | none => none
def asn (ih : Ih) (fn : Func) (c : Code) (f : FuncId) (vs : List AV) (dfr : Bool) (u : UM) (w : W) : R :=
 bc (Nat.ble (cj vs) fn.ntmps) (ih c (.mk f fn.ntmps dfr none) (.mk (kc vs 0 j4) [] u w)) (.no 201 f)
def ajn (fn : Func) (r : R) : DR := match r with
 | .n (.mk τ [] u w) | .r (.mk τ [] u w) => (match results fn τ w with | .ret _ _ => .ret u w | _ => .no 202 0)
 | .p ch (.mk _ [] u w) => .pan ch u w
 | .no c f => .no c f
 | _ => .no 203 0
def ap2 (ih : Ih) (f : FuncId) (vs : List AV) (u : UM) (w : W) : DR := match ac2 f with
 | some (fn, c) => ajn fn (asn ih fn c f vs true u w)
 | none => .no 204 f
def tp (ih : Ih) (fn : Func) (τ : F) : List AD → UM → W → CR
 | [], .ret, w => results fn τ w
 | [], .pan ch, w => .pan ch w
 | [], .none, _ => .no 205 0
 | .call (.func f) cap args :: ds, u, w => (match aan f (args ++ cap) w with
   | .call f vs w => (match ap2 ih f vs u w with
     | .ret u' w' => tp ih fn τ ds (settle u') w'
     | .pan ch u' w' => tp ih fn τ ds (raised u' ch) w'
     | .no c f => .no c f)
   | _ => .no 206 0)
 | .coll b :: ds, u, w => (match d7 b w with
   | .deferred (some []) => tp ih fn τ ds u (wset b (.deferred none) w)
   | _ => .no 206 1)
 | _ :: _, _, _ => .no 207 0
def bl6 (ih : Ih) (fn : Func) (r : R) : CR := match r with
 | .n (.mk τ ds _ w) | .r (.mk τ ds _ w) => tp ih fn τ ds .ret w
 | .p ch (.mk τ ds _ w) => tp ih fn τ ds (.pan ch) w
 | .no c f => .no c f
 | _ => .no 208 0
def boe (ih : Ih) (f : FuncId) (vs : List AV) (w : W) (b : Func × Code) : CR := bl6 ih b.1 (asn ih b.1 b.2 f vs false .none w)
def a0m (ih : Ih) (f : FuncId) (vs : List AV) (w : W) : CR := match ac2 f with
 | some b => boe ih f vs w b
 | none => .no 209 f
def b1q : AV → Bool
 | .bool _ => true
 | .int _ _ => true
 | .str _ _ => true
 | .nilPtr => true
 | .nilSlice => true
 | .nilMap => true
 | .nilIface => true
 | .nilFunc => true
 | _ => false
def a1z : List AV → Bool
 | [] => true
 | v :: l => bc (b1q v) (a1z l) false
def tl : List SA → List SA → Bool
 | [], [] => true
 | .mk lt a b r :: l, .mk lt' a' b' r' :: m => bc (afc lt lt') (bc (j8 a a') (bc (j8 b b') (bc (afc r r') (tl l m) false) false) false) false
 | _, _ => false
def azi : List (Nat × Nat) → List (Nat × Nat) → Bool
 | [], [] => true
 | p :: l, q :: m => bc (Nat.beq p.1 q.1) (bc (Nat.beq p.2 q.2) (azi l m) false) false
 | _, _ => false
def a69 : GV → GV → Bool
 | .str g A, .str g' A' => bc (rj g g') (tl A A') false
 | .sl b es n A, .sl b' es' n' A' => bc (K.beq b b') (bc (Nat.beq es es') (bc (j8 n n') (tl A A') false) false) false
 | .ptr b es i o A, .ptr b' es' i' o' A' => bc (K.beq b b') (bc (Nat.beq es es') (bc (j8 i i') (bc (Nat.beq o o') (tl A A') false) false) false) false
 | .sr b o n A, .sr b' o' n' A' => bc (K.beq b b') (bc (j8 o o') (bc (j8 n n') (tl A A') false) false) false
 | .pr b o i A, .pr b' o' i' A' => bc (K.beq b b') (bc (j8 o o') (bc (j8 i i') (tl A A') false) false) false
 | _, _ => false
def atz : AV → AV → Bool
 | .bool a, .bool b => (match a, b with | true, true => true | false, false => true | _, _ => false)
 | .int k m, .int l n => bc (vp k l) (akd m n) false
 | .str l n, .str l' n' => sEq l n l' n'
 | .nilPtr, .nilPtr => true
 | .ptr b o, .ptr b' o' => bc (K.beq b b') (Nat.beq o o') false
 | .nilSlice, .nilSlice => true
 | .slice b o len cap none, .slice b' o' len' cap' none => bc (K.beq b b') (bc (Nat.beq o o') (bc (Nat.beq len len') (Nat.beq cap cap') false) false) false
 | .slice b o len cap (some e), .slice b' o' len' cap' (some e') => bc (K.beq b b') (bc (Nat.beq o o') (bc (Nat.beq len len') (bc (Nat.beq cap cap') (Nat.beq e e') false) false) false) false
 | .nilMap, .nilMap => true
 | .map b, .map b' => K.beq b b'
 | .nilFunc, .nilFunc => true
 | .nilIface, .nilIface => true
 | .wse b, .wse b' => K.beq b b'
 | .sym k e A, .sym k' e' A' => bc (vp k k') (bc (j8 e e') (tl A A') false) false
 | .sx c e A, .sx c' e' A' => bc (Nat.beq c c') (bc (j8 e e') (azi A A') false) false
 | .gv x, .gv y => a69 x y
 | .wsl b k d n, .wsl b' k' d' n' => bc (K.beq b b') (bc (K.beq k k') (bc (Nat.beq d d') (Nat.beq n n') false) false) false
 | .wptr b k i, .wptr b' k' i' => bc (K.beq b b') (bc (K.beq k k') (Nat.beq i i') false) false
 | .esl, .esl => true
 | .top, .top => true
 | _, _ => false
def b7t : AV → AV → Bool
 | .iface t a, .iface t' a' => bc (Nat.beq t t') (atz a a') false
 | a, b => atz a b
def bvf : List AV → List AV → Bool
 | [], [] => true
 | a :: l, b :: m => bc (b7t a b) (bvf l m) false
 | _, _ => false
def af9 (f : AV → AV → Bool) : List AV → List AV → Bool
 | [], [] => true
 | a :: l, b :: m => bc (f a b) (af9 f l m) false
 | _, _ => false
def bfv : Fn → Fn → Bool
 | .func f, .func g => Nat.beq f g
 | _, _ => false
def asx : Nat → AV → AV → Bool
 | 0, _, _ => false
 | n + 1, a, b => match a, b with
   | .agg l, .agg m => af9 (asx n) l m
   | .tuple l, .tuple m => af9 (asx n) l m
   | .iface t x, .iface t' y => bc (Nat.beq t t') (asx n x y) false
   | .func f x y, .func g x' y' => bc (bfv f g) (bc (af9 (asx n) x x') (af9 (asx n) y y') false) false
   | a, b => atz a b
def by9 (a b : AV) : Bool := asx 8 a b
inductive LE where
 | mk (g : Nat) (cells : List AV)
def laidL : List LE := [.mk 1 [.int .u8 128, .int .u8 191, .int .u8 160, .int .u8 191, .int .u8 128, .int .u8 159, .int .u8 144, .int .u8 191, .int .u8 128, .int .u8 143, .int .u8 0, .int .u8 0, .int .u8 0, .int .u8 0, .int .u8 0, .int .u8 0, .int .u8 0, .int .u8 0, .int .u8 0, .int .u8 0, .int .u8 0, .int .u8 0, .int .u8 0, .int .u8 0, .int .u8 0, .int .u8 0, .int .u8 0, .int .u8 0, .int .u8 0, .int .u8 0, .int .u8 0, .int .u8 0], .mk 0 [.int .u8 240, .int .u8 240, .int .u8 240, .int .u8 240, .int .u8 240, .int .u8 240, .int .u8 240, .int .u8 240, .int .u8 240, .int .u8 240, .int .u8 240, .int .u8 240, .int .u8 240, .int .u8 240, .int .u8 240, .int .u8 240, .int .u8 240, .int .u8 240, .int .u8 240, .int .u8 240, .int .u8 240, .int .u8 240, .int .u8 240, .int .u8 240, .int .u8 240, .int .u8 240, .int .u8 240, .int .u8 240, .int .u8 240, .int .u8 240, .int .u8 240, .int .u8 240, .int .u8 240, .int .u8 240, .int .u8 240, .int .u8 240, .int .u8 240, .int .u8 240, .int .u8 240, .int .u8 240, .int .u8 240, .int .u8 240, .int .u8 240, .int .u8 240, .int .u8 240, .int .u8 240, .int .u8 240, .int .u8 240, .int .u8 240, .int .u8 240, .int .u8 240, .int .u8 240, .int .u8 240, .int .u8 240, .int .u8 240, .int .u8 240, .int .u8 240, .int .u8 240, .int .u8 240, .int .u8 240, .int .u8 240, .int .u8 240, .int .u8 240, .int .u8 240, .int .u8 240, .int .u8 240, .int .u8 240, .int .u8 240, .int .u8 240, .int .u8 240, .int .u8 240, .int .u8 240, .int .u8 240, .int .u8 240, .int .u8 240, .int .u8 240, .int .u8 240, .int .u8 240, .int .u8 240, .int .u8 240, .int .u8 240, .int .u8 240, .int .u8 240, .int .u8 240, .int .u8 240, .int .u8 240, .int .u8 240, .int .u8 240, .int .u8 240, .int .u8 240, .int .u8 240, .int .u8 240, .int .u8 240, .int .u8 240, .int .u8 240, .int .u8 240, .int .u8 240, .int .u8 240, .int .u8 240, .int .u8 240, .int .u8 240, .int .u8 240, .int .u8 240, .int .u8 240, .int .u8 240, .int .u8 240, .int .u8 240, .int .u8 240, .int .u8 240, .int .u8 240, .int .u8 240, .int .u8 240, .int .u8 240, .int .u8 240, .int .u8 240, .int .u8 240, .int .u8 240, .int .u8 240, .int .u8 240, .int .u8 240, .int .u8 240, .int .u8 240, .int .u8 240, .int .u8 240, .int .u8 240, .int .u8 240, .int .u8 240, .int .u8 240, .int .u8 241, .int .u8 241, .int .u8 241, .int .u8 241, .int .u8 241, .int .u8 241, .int .u8 241, .int .u8 241, .int .u8 241, .int .u8 241, .int .u8 241, .int .u8 241, .int .u8 241, .int .u8 241, .int .u8 241, .int .u8 241, .int .u8 241, .int .u8 241, .int .u8 241, .int .u8 241, .int .u8 241, .int .u8 241, .int .u8 241, .int .u8 241, .int .u8 241, .int .u8 241, .int .u8 241, .int .u8 241, .int .u8 241, .int .u8 241, .int .u8 241, .int .u8 241, .int .u8 241, .int .u8 241, .int .u8 241, .int .u8 241, .int .u8 241, .int .u8 241, .int .u8 241, .int .u8 241, .int .u8 241, .int .u8 241, .int .u8 241, .int .u8 241, .int .u8 241, .int .u8 241, .int .u8 241, .int .u8 241, .int .u8 241, .int .u8 241, .int .u8 241, .int .u8 241, .int .u8 241, .int .u8 241, .int .u8 241, .int .u8 241, .int .u8 241, .int .u8 241, .int .u8 241, .int .u8 241, .int .u8 241, .int .u8 241, .int .u8 241, .int .u8 241, .int .u8 241, .int .u8 241, .int .u8 2, .int .u8 2, .int .u8 2, .int .u8 2, .int .u8 2, .int .u8 2, .int .u8 2, .int .u8 2, .int .u8 2, .int .u8 2, .int .u8 2, .int .u8 2, .int .u8 2, .int .u8 2, .int .u8 2, .int .u8 2, .int .u8 2, .int .u8 2, .int .u8 2, .int .u8 2, .int .u8 2, .int .u8 2, .int .u8 2, .int .u8 2, .int .u8 2, .int .u8 2, .int .u8 2, .int .u8 2, .int .u8 2, .int .u8 2, .int .u8 19, .int .u8 3, .int .u8 3, .int .u8 3, .int .u8 3, .int .u8 3, .int .u8 3, .int .u8 3, .int .u8 3, .int .u8 3, .int .u8 3, .int .u8 3, .int .u8 3, .int .u8 35, .int .u8 3, .int .u8 3, .int .u8 52, .int .u8 4, .int .u8 4, .int .u8 4, .int .u8 68, .int .u8 241, .int .u8 241, .int .u8 241, .int .u8 241, .int .u8 241, .int .u8 241, .int .u8 241, .int .u8 241, .int .u8 241, .int .u8 241, .int .u8 241]]
def ve : List LE → W → Bool
 | [], _ => true
 | .mk g cs :: l, w => (match d7 (K.of g) w with
   | .ro t _ _ => bc (Nat.beq t (Nat.succ g)) (ve l w) false
   | _ => false)
def ly : List LE → H4
 | [] => ap8
 | .mk g cs :: l => da (K.of g) (.ro (Nat.succ g) (cj cs) (qk cs 0 (lr (cj cs)))) (ly l)
def y6 : List LE → Bool
 | [] => true
 | .mk g cs :: l => bc (Nat.ble g 255 && a1z cs && Nat.ble (cj cs) 65536) (y6 l) false
def wS : W := .mk (ly laidL) (K.of 256)
def b5m (o : Option CR) : Ih → FuncId → List AV → W → CR := Option.rec (motive := fun _ => Ih → FuncId → List AV → W → CR) a0m (fun r _ _ _ _ => r) o
def enter (ih : Ih) (f : FuncId) (vs : List AV) (w : W) : CR := b5m (ih.hook f vs w) ih f vs w
def ae9 (nt : Nat) : List Nat → List AV → F → F
 | t :: ts, v :: vs, τ => ae9 nt ts vs (atc nt t v τ)
 | _, _, τ => τ
def ao4 (b : K) (jump : Option Code) (st : LoopState) (v : Bool) (w : W) : CR := match d7 b w with
 | .loop _ _ fn nt τ ps x y kd => .ret (.bool v) (wset b (.loop st jump fn nt τ ps x y kd) w)
 | _ => .no 245 0
def aox (b : K) (fn : Nat) (r : R) : CR := match r with
 | .n (.mk _ [] _ w) => ao4 b none .ready true w
 | .x id (.mk _ [] _ w) => ao4 b (some (.exit id)) .done false w
 | .r (.mk _ [] _ w) => ao4 b (some .ret) .done false w
 | .p ch (.mk _ [] _ w) => bc (asv fn).isSome (.pan ch w) (.no 244 fn)
 | .no c f => .no c f
 | _ => .no 244 fn
def az0 (ih : Ih) (b : K) (fn nt : Nat) (y : Code) (r : R) : CR := match r with
 | .n (.mk τ [] um w) => (match d7 b w with
   | .loop .ready pend fn' nt' τ' ps x y' kd => aox b fn (ih y (.mk fn nt false (some b)) (.mk τ [] um (wset b (.loop .busy pend fn' nt' τ' ps x y' kd) w)))
   | _ => .no 242 fn)
 | .no c f => .no c f
 | _ => .no 243 fn
def acu (ih : Ih) (b : K) (vs : List AV) (w : W) : CR := match d7 b w with
 | .loop _ _ fn nt τ ps x y _ => bc (Nat.beq (cj ps) (cj vs)) (az0 ih b fn nt y (ih x (.mk fn nt false (some b)) (.mk (ae9 nt ps vs τ) [] .none w))) (.no 240 fn)
 | _ => .no 241 0
def oe (g : Nat × Bool) (all : List Oper) (τ : F) : Option Bool :=
 match (nth all g.1).bind (·.dst) with
 | some d => (match jr d τ with | .bool b => some (b == g.2) | .tuple _ => some false | _ => none)
 | none => none
def b8p (v : AV) (w : W) (dst : Option Nat) (IH : Oh) (ih : Ih) (all : List Oper) (C : Ctx) (τ : F) (ds : List AD) (um : UM) : R :=
 IH ih all C (.mk (wc C.nt dst v τ) ds um w)
def crK (r : CR) : Option Nat → Oh → Ih → List Oper → Ctx → F → List AD → UM → R :=
 CR.rec (motive := fun _ => Option Nat → Oh → Ih → List Oper → Ctx → F → List AD → UM → R)
  b8p
  (fun ch w _ _ _ _ _ τ ds um => .p ch (.mk τ ds um w))
  (fun c f _ _ _ _ _ _ _ _ => .no c f) r
def b5t (f : FuncId) (vs : List AV) (w : W) (dst : Option Nat) (IH : Oh) (ih : Ih) (all : List Oper) (C : Ctx) (τ : F) (ds : List AD) (um : UM) : R :=
 crK (enter ih f vs w) dst IH ih all C τ ds um
def b9w (b : K) (vs : List AV) (w : W) (dst : Option Nat) (IH : Oh) (ih : Ih) (all : List Oper) (C : Ctx) (τ : F) (ds : List AD) (um : UM) : R :=
 crK (acu ih b vs w) dst IH ih all C τ ds um
def cab (v : AV) (w : W) (dst : Option Nat) (IH : Oh) (ih : Ih) (all : List Oper) (C : Ctx) (τ : F) (ds : List AD) (um : UM) : R := .p [.mk v false] (.mk τ ds um w)
def b9y (d : AD) (w : W) (dst : Option Nat) (IH : Oh) (ih : Ih) (all : List Oper) (C : Ctx) (τ : F) (ds : List AD) (um : UM) : R :=
 match C.round with
 | none => IH ih all C (.mk (wc C.nt dst jq τ) (d :: ds) um w)
 | some _ => .no 211 C.fn
def a2s (w : W) (dst : Option Nat) (IH : Oh) (ih : Ih) (all : List Oper) (C : Ctx) (τ : F) (ds : List AD) (um : UM) : R :=
 match C.round, C.dfr, um with
 | some _, _, _ => .no 212 C.fn
 | none, true, .pan (.mk v false :: older) => IH ih all C (.mk (wc C.nt dst v τ) ds (.pan (.mk v true :: older)) w)
 | none, _, um => IH ih all C (.mk (wc C.nt dst .nilIface τ) ds um w)
def orK (r : OR) : Option Nat → Oh → Ih → List Oper → Ctx → F → List AD → UM → R :=
 OR.rec (motive := fun _ => Option Nat → Oh → Ih → List Oper → Ctx → F → List AD → UM → R)
  b8p b5t b9w cab b9y a2s (fun c _ _ _ _ C _ _ _ => .no c C.fn) r
def oGo (dst : Option Nat) (op : Op) (IH : Oh) (ih : Ih) (all : List Oper) (C : Ctx) (S : FSt) : R :=
 FSt.rec (motive := fun _ => Option Nat → Op → Oh → Ih → List Oper → Ctx → R)
  (fun τ ds um w dst op IH ih all C => orK (gOp op τ w) dst IH ih all C τ ds um) S dst op IH ih all C
def bu5 (dst : Option Nat) (IH : Oh) (ih : Ih) (all : List Oper) (C : Ctx) (S : FSt) : R :=
 FSt.rec (motive := fun _ => Option Nat → Oh → Ih → List Oper → Ctx → R)
  (fun τ ds um w dst IH ih all C => IH ih all C (.mk (wc C.nt dst jq τ) ds um w)) S dst IH ih all C
def b26 (g : Nat × Bool) (dst : Option Nat) (op : Op) (IH : Oh) (ih : Ih) (all : List Oper) (C : Ctx) (S : FSt) : R :=
 match S with
 | .mk τ _ _ _ => match oe g all τ with
   | some true => oGo dst op IH ih all C S
   | some false => bu5 dst IH ih all C S
   | none => .no 213 C.fn
def ay6 (g : Option (Nat × Bool)) : Option Nat → Op → Oh → Ih → List Oper → Ctx → FSt → R :=
 Option.rec (motive := fun _ => Option Nat → Op → Oh → Ih → List Oper → Ctx → FSt → R) oGo b26 g
def b34 (o : Oper) : Oh → Ih → List Oper → Ctx → FSt → R :=
 Oper.rec (motive := fun _ => Oh → Ih → List Oper → Ctx → FSt → R)
  (fun dst op _ _ _ g IH ih all C S => ay6 g dst op IH ih all C S) o
def yf (l : List Oper) : Oh :=
 List.rec (motive := fun _ => Oh) (fun _ _ _ S => .n S) (fun o _ IH ih all C S => b34 o IH ih all C S) l
def tb (m i : Nat) : Bool := Nat.beq (Nat.land (Nat.shiftRight m i) 1) 1
def aqq : Nat := 115792089237316195423570985008687907853269984665640564039457584007913129639936
def fld (M t : Nat) : Nat := Nat.mod (Nat.shiftRight M (Nat.mul t 256)) aqq
def a31 (M t m : Nat) : Nat := Nat.lor M (Nat.shiftLeft (Nat.mod m aqq) (Nat.mul t 256))
def bko (x y : Nat) : Bool := Nat.beq (Nat.land x y) x
def bd7 : List Edge → Nat → Nat → Nat
 | [], _, s => s
 | e :: es, B, s => bd7 es B (bc (Region.binds .any e) (Nat.lor (Nat.lor s (Nat.shiftLeft 1 e.on)) (fld B e.on)) s)
def b0j : List Oper → Nat → Nat → Nat
 | [], _, B => B
 | o :: os, j, B => b0j os (Nat.succ j) (a31 B j (bd7 o.after.toList B 0))
def asj (ops : Array Oper) : Nat := b0j ops.toList 0 0
def ee (ops : Array Oper) (j : Nat) : Nat := fld (asj ops) j
def dx (ops : Array Oper) (i j : Nat) : Bool := tb (ee ops j) i
inductive CL where
 | pu
 | rd
 | fl
 | ef
 | mu
def ae1 : Op → CL
 | .move _ => .pu
 | .assign _ => .pu
 | .fieldAddr .. => .pu
 | .extract .. => .pu
 | .nilCheck _ => .pu
 | .load .. => .rd
 | .lookup .. => .rd
 | .convert .. => .rd
 | .binOp .. => .rd
 | .unOp .. => .rd
 | .index .. => .rd
 | .indexAddr .. => .rd
 | .field .. => .rd
 | .slice .. => .rd
 | .typeAssert .. => .rd
 | .pick .. => .rd
 | .build .. => .rd
 | .makeInterface .. => .rd
 | .makeFunc .. => .rd
 | .call { callee := .builtin .len, .. } => .rd
 | .alloc _ => .fl
 | .box .. => .fl
 | .buildSlice .. => .fl
 | .makeMap .. => .fl
 | _ => .ef
inductive PM where
 | none
 | mk (i d : Nat)
def b33 (t : Nat) (d : Nat) : CL := bc (Nat.beq t d) .mu .ef
def br5 (d : Nat) : Op → CL
 | .insert _ (.tmp t) _ _ => b33 t d
 | op => ae1 op
def cls (pm : PM) (op : Op) : CL := PM.rec (motive := fun _ => Op → CL) ae1 (fun _ d => br5 d) pm op
def isP (pm : PM) (j : Nat) : Bool := match pm with
 | .none => false
 | .mk i _ => Nat.beq i j
def noP : PM → Bool
 | .none => true
 | .mk _ _ => false
def b0q : Op → Bool
 | .makeMap _ _ => true
 | _ => false
def bfi : List Oper → Nat → PM
 | [], _ => .none
 | o :: l, i => bc (b0q o.op) (match o.dst with
   | some d => .mk i d
   | none => bfi l (Nat.succ i)) (bfi l (Nat.succ i))
inductive PV where
 | none
 | mk (k : K) (es : List (AV × AV))
def au8 (a b : AV) : Bool := match tv a b, tv b a with
 | some false, some false => true
 | _, _ => false
def ai1 (a : AV) : List (AV × AV) → Bool
 | [] => true
 | e :: l => bc (au8 a e.1) (ai1 a l) false
def a05 : List (AV × AV) → Bool
 | [] => true
 | e :: l => bc (ai1 e.1 l) (a05 l) false
def biz : PV → Bool
 | .none => true
 | .mk _ es => a05 es
def bc5 (k : K) : AV → Bool
 | .map b => K.beq b k
 | _ => false
def bmf (p : PV) (w : W) : W := match p with
 | .none => w
 | .mk k es => wset k (.umap es) w
def bk7 : CL → Bool
 | .ef => true
 | _ => false
def b4n : CL → Bool
 | .fl => true
 | _ => false
def bh5 (p : Nat → Bool) : Nat → Bool
 | 0 => true
 | n + 1 => bc (p n) (bh5 p n) false
def tx (pm : PM) : List Oper → Nat
 | [] => 0
 | o :: l => bc (b4n (cls pm o.op)) (tx pm l + 1) (tx pm l)
def akt (ops : Array Oper) : Nat := cj ops.toList
def agc (pm : PM) : List Oper → Nat → List Nat
 | [], _ => []
 | o :: l, j => bc (bk7 (cls pm o.op)) (j :: agc pm l (Nat.succ j)) (agc pm l (Nat.succ j))
def b27 (pm : PM) (ops : Array Oper) : List Nat := agc pm ops.toList 0
def a16 (p : Nat → Bool) : List Nat → Bool
 | [] => true
 | x :: l => bc (p x) (a16 p l) false
def alq (pm : PM) (ops : Array Oper) (j e : Nat) : Bool :=
 a16 (fun x => bc (bc (dx ops x j) (Nat.blt x e) true) (bc (Nat.blt x e) (as3 (dx ops j x)) true) false) (b27 pm ops)
def abp (pm : PM) (ops : Array Oper) (j : Nat) : Bool :=
 as3 (a16 (fun x => bc (bc (Nat.blt x j) (dx ops x j) true) (bc (Nat.blt j x) (dx ops j x) true) false) (b27 pm ops))
def aj8 : List Operand → List Nat
 | [] => []
 | .tmp t :: l => t :: aj8 l
 | _ :: l => aj8 l
def tm (all : List Oper) (o : Oper) : List Nat :=
 aj8 o.op.operands.toList ++ (o.dst.toList ++ (match o.guard with
  | some g => ((nth all g.1).bind (·.dst)).toList
  | none => []))
def ag1 (j : Nat) : List Edge → Bool
 | [] => true
 | e :: l => bc (bc (Region.binds .any e) (Nat.blt e.on j) true) (ag1 j l) false
def a6z (Wm b : Nat) : List Nat → Bool
 | [] => true
 | t :: l => bc (bko (fld Wm t) b) (a6z Wm b l) false
def b5s (Rm b : Nat) : Option Nat → Bool
 | none => true
 | some d => bko (fld Rm d) b
def b8f (Wm j : Nat) : Option Nat → Nat
 | none => Wm
 | some d => a31 Wm d (Nat.shiftLeft 1 j)
def b2l (j : Nat) : List Nat → Nat → Nat
 | [], Rm => Rm
 | t :: l, Rm => b2l j l (a31 Rm t (Nat.shiftLeft 1 j))
def bee (pm : PM) (all : List Oper) (B : Nat) : List Oper → Nat → Nat → Nat → Nat → Bool
 | [], _, _, _, _ => true
 | o :: os, j, Wm, Rm, Em =>
   bc (ag1 j o.after.toList) (bc (a6z Wm (fld B j) (tm all o)) (bc (b5s Rm (fld B j) o.dst) (bc (bc (bk7 (cls pm o.op)) (bko Em (fld B j)) true)
    (bee pm all B os (Nat.succ j) (b8f Wm j o.dst) (b2l j (tm all o) Rm) (bc (bk7 (cls pm o.op)) (Nat.lor Em (Nat.shiftLeft 1 j)) Em)) false) false) false) false
def af8 (pm : PM) (ops : Array Oper) : Bool := bc (Nat.ble (akt ops) 256) (bee pm ops.toList (asj ops) ops.toList 0 0 0 0) false
def dummy : Oper := { dst := none, op := .move (.func 0), type := 0, pos := "", after := #[], guard := none }
def qi (B p : Nat) : List Oper → Nat → List Oper
 | [], _ => []
 | o :: l, j => bc (tb (fld B j) p) dummy o :: qi B p l (Nat.succ j)
def gf (ops : Array Oper) (p : Nat) : Array Oper := (qi (asj ops) p ops.toList 0).toArray
def aso (ops : Array Oper) (p : Nat) (o : Oper) : Bool := match o.guard with
 | some g => as3 (dx ops p g.1)
 | none => true
def byp (ops opsT : Array Oper) (p j : Nat) : Bool := bc (dx ops p j) true (bc (Nat.beq (ee ops j) (ee opsT j)) (bc (bc (abp .none opsT j) (abp .none ops j) true) (match nth ops.toList j with
 | some o => aso ops p o
 | none => true) false) false)
def biv (ops opsT : Array Oper) (p : Nat) : Bool := bc (af8 .none opsT) (bc (bh5 (fun j => as3 (dx ops p j)) (Nat.succ p)) (bh5 (byp ops opsT p) (akt ops)) false) false
def afw (nt : Nat) : List Oper → F → F
 | [], τ => τ
 | o :: l, τ => afw nt l (wc nt o.dst .top τ)
inductive PF where
 | mk (i : Nat) (k : K) (o : AObj)
inductive RC where
 | mk (i : Nat) (op : Op) (τ : F) (v : AV)
inductive DS where
 | mk (τ : F) (w : W) (fk : K) (pend : List PF) (hist : List (Nat × W)) (recs : List RC) (pv : PV)
inductive DX where
 | ok (s : DS)
 | pan (ch : List PE) (w : W) (p : Nat) (s : DS)
 | no (c f : Nat)
def ff (m : Nat) : List PF → W → W
 | [], w => w
 | .mk i k o :: l, w => bc (tb m i) (wset k o (ff m l w)) (ff m l w)
def ac1 (m : Nat) : List PF → List PF
 | [] => []
 | .mk i k o :: l => bc (tb m i) (ac1 m l) (.mk i k o :: ac1 m l)
def ask : List PF → W → W
 | [], w => w
 | .mk _ k o :: l, w => wset k o (ask l w)
def hOf : W → H4 | .mk h _ => h
def bnf (o : Oper) (nt fn : Nat) : DS → DX
 | .mk τ w fk pend hist recs pv => match gD o.op τ w with
   | .val v _ => .ok (.mk (wc nt o.dst v τ) w fk pend hist recs pv)
   | .no c => .no c fn
   | _ => .no 230 fn
def bns (pm : PM) (ops : Array Oper) (i : Nat) (o : Oper) (nt fn : Nat) : DS → DX
 | .mk τ w fk pend hist recs pv => match gD o.op τ w with
   | .val v _ => .ok (.mk (wc nt o.dst v τ) w fk pend hist (bc (abp pm ops i) (.mk i o.op τ v :: recs) recs) pv)
   | .no c => .no c fn
   | _ => .no 231 fn
def bip : AObj → Bool
 | .map [] => true
 | _ => false
def a59 (pm : PM) (i : Nat) (o : Oper) (nt fn : Nat) : DS → DX
 | .mk τ w fk pend hist recs pv => match gD o.op τ (.mk (hOf w) fk) with
   | .val v (.mk h' _) => bc (isP pm i)
      (bc (bip (ab fk h')) (.ok (.mk (wc nt o.dst v τ) w fk.succ pend hist recs (.mk fk []))) (.no 239 fn))
      (.ok (.mk (wc nt o.dst v τ) w fk.succ (.mk i fk (ab fk h') :: pend) hist recs pv))
   | .no c => .no c fn
   | _ => .no 232 fn
def dMu (o : Oper) (nt fn : Nat) : DS → DX
 | .mk τ w fk pend hist recs (.mk k es) => (match o.op, o.guard with
   | .insert t m x y, none => bc (qt t && auj t (evX x τ) && bc5 k (evX m τ))
      (.ok (.mk (wc nt o.dst jq τ) w fk pend hist recs (.mk k (es ++ [(evX x τ, evX y τ)])))) (.no 229 fn)
   | _, _ => .no 228 fn)
 | _ => .no 227 fn
def bq7 (pm : PM) (ih : Ih) (ops : Array Oper) (i : Nat) (o : Oper) (nt fn : Nat) : DS → DX
 | .mk τ w fk pend hist recs pv => match gD o.op τ (ff (ee ops i) pend w) with
   | .val v w' => .ok (.mk (wc nt o.dst v τ) w' fk (ac1 (ee ops i) pend) ((i, w) :: hist) recs pv)
   | .call f vs w' => (match enter ih f vs w' with
     | .ret v w'' => .ok (.mk (wc nt o.dst v τ) w'' fk (ac1 (ee ops i) pend) ((i, w) :: hist) recs pv)
     | .no c f => .no c f
     | .pan ch w'' => bc (noP pm) (.pan ch w'' i (.mk (wc nt o.dst .top τ) (ff (ee ops i) pend w) fk (ac1 (ee ops i) pend) ((i, w) :: hist) recs pv)) (.no 233 fn))
   | .no c => .no c fn
   | _ => .no 234 fn
def dGo (pm : PM) (ih : Ih) (ops : Array Oper) (i : Nat) (o : Oper) (nt fn : Nat) (s : DS) : DX := match cls pm o.op with
 | .pu => bnf o nt fn s
 | .rd => bns pm ops i o nt fn s
 | .fl => a59 pm i o nt fn s
 | .ef => bq7 pm ih ops i o nt fn s
 | .mu => dMu o nt fn s
def bkm (pm : PM) (ops : Array Oper) (i : Nat) (o : Oper) (nt : Nat) : DS → DX
 | .mk τ w fk pend hist recs pv => match cls pm o.op with
   | .ef => .ok (.mk (wc nt o.dst jq τ) (ff (ee ops i) pend w) fk (ac1 (ee ops i) pend) ((i, w) :: hist) recs pv)
   | .mu => .no 226 0
   | _ => .ok (.mk (wc nt o.dst jq τ) w fk pend hist recs pv)
def DS.τ : DS → F | .mk τ .. => τ
def DS.w : DS → W | .mk _ w .. => w
def DS.fk : DS → K | .mk _ _ fk .. => fk
def DS.pend : DS → List PF | .mk _ _ _ p .. => p
def DS.hist : DS → List (Nat × W) | .mk _ _ _ _ h .. => h
def DS.recs : DS → List RC | .mk _ _ _ _ _ r _ => r
def DS.pv : DS → PV | .mk _ _ _ _ _ _ p => p
def xd (pm : PM) (ih : Ih) (ops : Array Oper) (i : Nat) (o : Oper) (nt fn : Nat) (s : DS) : DX := match o.guard with
 | none => dGo pm ih ops i o nt fn s
 | some g => match oe g ops.toList s.τ with
   | some true => dGo pm ih ops i o nt fn s
   | some false => bkm pm ops i o nt s
   | none => .no 235 fn
def boq (r : DX) (k : DS → DX) : DX := match r with
 | .ok s => k s
 | .pan ch w p s => .pan ch w p s
 | .no c f => .no c f
def aqv (pm : PM) (ih : Ih) (ops : Array Oper) (nt fn : Nat) : List Oper → Nat → DS → DX
 | [], _, s => .ok s
 | o :: l, i, s => boq (xd pm ih ops i o nt fn s) (aqv pm ih ops nt fn l (i + 1))
def blr (op : Op) (τ : F) (v : AV) (w : W) : Bool := match gD op τ w with
 | .val v' _ => by9 v v'
 | _ => false
def bky (pm : PM) (ops : Array Oper) : RC → List (Nat × W) → Bool
 | _, [] => true
 | .mk i op τ v, (e, w) :: l => bc (bc (alq pm ops i e) (blr op τ v w) true) (bky pm ops (.mk i op τ v) l) false
def ae7 (pm : PM) (ops : Array Oper) : List RC → List (Nat × W) → Bool
 | [], _ => true
 | r :: l, h => bc (bky pm ops r h) (ae7 pm ops l h) false
def a4q (ops opsT : Array Oper) (fn nt : Nat) (τ0 : F) (ds : List AD) (um : UM) (ch : List PE) (w2 : W) : DX → R
 | .ok (.mk _ w _ _ hist recs _) => bc (ae7 .none opsT recs ((akt ops, w) :: hist)) (.p ch (.mk (afw nt ops.toList τ0) ds um w2)) (.no 236 fn)
 | .pan _ _ _ _ => .no 225 fn
 | .no c f => .no c f
def bbs (ih : Ih) (ops opsT : Array Oper) (fn nt : Nat) (τ0 : F) (ds : List AD) (um : UM) (ch : List PE) (w2 : W) (p : Nat) (s : DS) : R :=
 bc (biv ops opsT p) (a4q ops opsT fn nt τ0 ds um ch w2 (aqv .none ih opsT nt fn (opsT.toList.drop (Nat.succ p)) (Nat.succ p) s)) (.no 233 fn)
def b0u (pm : PM) (ih : Ih) (ops : Array Oper) (fn nt : Nat) (τ0 : F) (ds : List AD) (um : UM) : DX → R
 | .ok (.mk τ w _ pend hist recs pv) => bc (ae7 pm ops recs ((akt ops, w) :: hist) && biz pv) (.n (.mk τ ds um (bmf pv (ask pend w)))) (.no 236 fn)
 | .pan ch w2 p s => bbs ih ops (gf ops p) fn nt τ0 ds um ch w2 p s
 | .no c f => .no c f
def a0p : Nat → K → Option K
 | 0, k => some k
 | n + 1, k => bc k.isMax none (a0p n k.succ)
def aqn (pm : PM) (ih : Ih) (ops : Array Oper) (nt fn : Nat) (τ : F) (h : H4) (nx : K) (ds : List AD) (um : UM) : Option K → R
 | some nx' => b0u pm ih ops fn nt τ ds um (aqv pm ih ops nt fn ops.toList 0 (.mk τ (.mk h nx') nx [] [] [] .none))
 | none => .no 237 fn
def aqy (pm : PM) (ops : Array Oper) (ih : Ih) (C : Ctx) : FSt → R
 | .mk τ ds um (.mk h nx) => bc (af8 pm ops) (aqn pm ih ops C.nt C.fn τ h nx ds um (a0p (tx pm ops.toList) nx)) (.no 238 C.fn)
def a8s (_ : Nat) (ops : Array Oper) (ih : Ih) (C : Ctx) (S : FSt) : R := bc (af8 .none ops) (aqy .none ops ih C S) (aqy (bfi ops.toList 0) ops ih C S)
def b07 (_ : Nat) (ops : Array Oper) (ih : Ih) (C : Ctx) (S : FSt) : R := yf ops.toList ih ops.toList C S
def bpv (id : Nat) (ops : Array Oper) (draw : Bool) : Ih → Ctx → FSt → R := Bool.rec (motive := fun _ => Nat → Array Oper → Ih → Ctx → FSt → R) b07 a8s draw id ops
def aq7 (r : R) : Ih → Code → Ctx → R := R.rec (motive := fun _ => Ih → Code → Ctx → R)
 (fun S ih b C => ih b C S) (fun id S _ _ _ => .x id S) (fun S _ _ _ => .r S) (fun ch S _ _ _ => .p ch S) (fun c f _ _ _ => .no c f) r
abbrev Rh := Ih → Ctx → FSt → R
def b9j (a b : Code) (_ _ : Rh) (ih : Ih) (C : Ctx) (S : FSt) : R := aq7 (ih a C S) ih b C
def blz (v : AV) (x y : Code) (ih : Ih) (C : Ctx) (S : FSt) : R := match v with
 | .bool b => ih (bc b x y) C S
 | _ => .no 214 C.fn
def FSt.τ (S : FSt) : F := FSt.rec (motive := fun _ => F) (fun τ _ _ _ => τ) S
def b6t (c : Operand) (x y : Code) (_ _ : Rh) (ih : Ih) (C : Ctx) (S : FSt) : R := blz (evX c S.τ) x y ih C S
def a6k (r : R) : Nat → R := R.rec (motive := fun _ => Nat → R)
 (fun S _ => .n S) (fun id' S id => bc (Nat.beq id' id) (.n S) (.x id' S)) (fun S _ => .r S) (fun ch S _ => .p ch S) (fun c f _ => .no c f) r
def b3l (id : Nat) (b : Code) (_ : Rh) (ih : Ih) (C : Ctx) (S : FSt) : R := a6k (ih b C S) id
def qs (b : Code) (ih : Ih) (C : Ctx) (S : FSt) : R := aq7 (ih b C S) ih (.loop b) C
def a8h (o : Option R) : Code → Ih → Ctx → FSt → R := Option.rec (motive := fun _ => Code → Ih → Ctx → FSt → R) qs (fun r _ _ _ _ => r) o
def b8g (b : Code) (_ : Rh) (ih : Ih) (C : Ctx) (S : FSt) : R := a8h (ih.lp C b S) b ih C S
def bnr : LoopState → Bool
 | .busy => true
 | _ => false
def bj7 (τ : F) (ds : List AD) (um : UM) (kl : K) (r : CR) : R := match r with
 | .ret _ w => (match d7 kl w with
   | .loop st pend fn nt τ' ps x y kd => bc (bnr st) (.no 248 fn) (match pend with
     | none => .n (.mk τ ds um (wset kl (.loop .exhausted pend fn nt τ' ps x y kd) w))
     | some (.exit id) => .x id (.mk τ ds um (wset kl (.loop .exhausted pend fn nt τ' ps x y kd) w))
     | some .ret => .r (.mk τ ds um (wset kl (.loop .exhausted pend fn nt τ' ps x y kd) w))
     | _ => .no 249 fn)
   | _ => .no 250 0)
 | .pan ch w => .p ch (.mk τ ds um w)
 | .no c f => .no c f
def aq8 (ih : Ih) (fn : Nat) (τ : F) (ds : List AD) (um : UM) (kl : K) (r : OR) : R := match r with
 | .call g vs w => bj7 τ ds um kl (enter ih g vs w)
 | _ => .no 247 fn
def azp (f : Operand) (ps : Array Tmp) (x y : Code) (ih : Ih) (C : Ctx) (S : FSt) : R := match S, C.round with
 | .mk τ ds um (.mk h nx), none => bc nx.isMax (.no 246 0) (bc nx.succ.isMax (.no 246 1)
    (aq8 ih C.fn τ (.coll nx :: ds) um nx.succ (ak2 (evX f τ) [.func (.yield nx.succ.num) [] []] (.mk (da nx.succ (.loop .ready none C.fn C.nt τ ps.toList x y nx) (da nx (.deferred (some [])) h)) nx.succ.succ))))
 | _, _ => .no 246 2
def bve (ih : Ih) (c : Code) : Ctx → FSt → R := Code.rec (motive := fun _ => Rh)
 (fun _ _ S => .n S) bpv b9j b6t b3l b8g (fun f ps x y _ _ => azp f ps x y) (fun id _ _ S => .x id S)
 (fun _ _ _ C _ => .no 216 C.fn) (fun _ _ _ S => .n S) (fun _ _ C _ => .no 217 C.fn) (fun _ _ S => .r S) (fun _ _ C _ => .no 218 C.fn) c ih
abbrev ahd := FuncId → List AV → W → Option CR
abbrev tu := Ctx → Code → FSt → Option R
def b10 (_ : Ctx) (_ : Code) (_ : FSt) : Option R := none
def b9n (H : ahd) (L : tu) (n : Nat) : Code → Ctx → FSt → R := Nat.rec (motive := fun _ => Code → Ctx → FSt → R) (fun _ _ _ => .no 219 0) (fun _ r => bve (Ih.mk H r L)) n
def aez (H : ahd) (L : tu) (n : Nat) : Ih := Ih.mk H (b9n H L n) L
def run (H : ahd) (n : Nat) : Ih := aez H b10 n
def a5t (_ : FuncId) (_ : List AV) (_ : W) : Option CR := none
inductive HE where
 | mk (f : FuncId) (vs : List AV) (v : AV)
def known (l : List HE) (f : FuncId) (vs : List AV) : Option AV := match l with
 | [] => none
 | .mk g us v :: l => bc (Nat.beq f g) (bc (bvf us vs) (some v) (known l f vs)) (known l f vs)
def w0 : W := .mk ap8 (K.of 256)
end
end Go.Ev
