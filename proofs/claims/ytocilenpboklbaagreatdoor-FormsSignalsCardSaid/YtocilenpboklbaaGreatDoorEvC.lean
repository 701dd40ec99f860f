import Derived.Test.YtocilenpboklbaaGreatDoorEvFx
set_option linter.all false
namespace Go.Ev
noncomputable section
inductive PE where
 | mk (v : AV) (rec : Bool)
inductive UM where
 | none
 | ret
 | pan (ch : List PE)
inductive FSt where
 | mk (τ : F) (ds : List AD) (um : UM) (w : W)
inductive Ctx where
 | mk (fn nt : Nat) (dfr : Bool) (round : Option K)
def Ctx.nt (C : Ctx) : Nat := Ctx.rec (motive := fun _ => Nat) (fun _ nt _ _ => nt) C
def Ctx.fn (C : Ctx) : Nat := Ctx.rec (motive := fun _ => Nat) (fun fn _ _ _ => fn) C
def Ctx.dfr (C : Ctx) : Bool := Ctx.rec (motive := fun _ => Bool) (fun _ _ d _ => d) C
def Ctx.round (C : Ctx) : Option K := Ctx.rec (motive := fun _ => Option K) (fun _ _ _ r => r) C
inductive R where
 | n (S : FSt)
 | x (id : Nat) (S : FSt)
 | r (S : FSt)
 | p (ch : List PE) (S : FSt)
 | no (c f : Nat)
inductive CR where
 | ret (v : AV) (w : W)
 | pan (ch : List PE) (w : W)
 | no (c f : Nat)
structure Ih where
 hook : FuncId → List AV → W → Option CR
 run : Code → Ctx → FSt → R
 lp : Ctx → Code → FSt → Option R
instance : CoeFun Ih (fun _ => Code → Ctx → FSt → R) := ⟨Ih.run⟩
abbrev Oh := Ih → List Oper → Ctx → FSt → R
def am7 (τ : F) (w : W) : ResultVar → Option AV
 | .tmp t => some (ij t τ)
 | .cell a t => match ij a τ with
   | .ptr b o => (match u6 t (.ptr b o) w with
     | .val v _ => some v
     | _ => none)
   | _ => none
def aid (τ : F) (w : W) : List ResultVar → Option (List AV)
 | [] => some []
 | r :: rs => (am7 τ w r).bind fun v => (aid τ w rs).map (v :: ·)
def bfx : List AV → AV
 | [v] => v
 | vs => .tuple vs
def results (fn : Func) (τ : F) (w : W) : CR := match aid τ w fn.results.toList with
 | some vs => .ret (bfx vs) w
 | none => .no 200 0
def settle : UM → UM
 | .pan (.mk _ true :: _) => .ret
 | u => u
def raised (u : UM) (ch : List PE) : UM := match u with
 | .pan old => .pan (ch ++ old)
 | _ => .pan ch
inductive DR where
 | ret (u : UM) (w : W)
 | pan (ch : List PE) (u : UM) (w : W)
 | no (c f : Nat)
def uv (f : FuncId) : Option (Func × Code) := match ajj f with
 | some fn => match fn.body with
   | some c => bc (Nat.ble fn.ntmps 512) (some (fn, c)) none
   | none => none
 | none => none
def aim (ih : Ih) (fn : Func) (c : Code) (f : FuncId) (vs : List AV) (dfr : Bool) (u : UM) (w : W) : R :=
 bc (Nat.ble (b9 vs) fn.ntmps) (ih c (.mk f fn.ntmps dfr none) (.mk (oq vs 0 my) [] u w)) (.no 201 f)
def ac8 (fn : Func) (r : R) : DR := match r with
 | .n (.mk τ [] u w) | .r (.mk τ [] u w) => (match results fn τ w with | .ret _ _ => .ret u w | _ => .no 202 0)
 | .p ch (.mk _ [] u w) => .pan ch u w
 | .no c f => .no c f
 | _ => .no 203 0
def agp (ih : Ih) (f : FuncId) (vs : List AV) (u : UM) (w : W) : DR := match uv f with
 | some (fn, c) => ac8 fn (aim ih fn c f vs true u w)
 | none => .no 204 f
def o7 (ih : Ih) (fn : Func) (τ : F) : List AD → UM → W → CR
 | [], .ret, w => results fn τ w
 | [], .pan ch, w => .pan ch w
 | [], .none, _ => .no 205 0
 | .call (.func f) cap args :: ds, u, w => (match uz f (args ++ cap) w with
   | .call f vs w => (match agp ih f vs u w with
     | .ret u' w' => o7 ih fn τ ds (settle u') w'
     | .pan ch u' w' => o7 ih fn τ ds (raised u' ch) w'
     | .no c f => .no c f)
   | _ => .no 206 0)
 | .coll b :: ds, u, w => (match db b w with
   | .deferred (some []) => o7 ih fn τ ds u (wset b (.deferred none) w)
   | _ => .no 206 1)
 | _ :: _, _, _ => .no 207 0
def a4i (ih : Ih) (fn : Func) (r : R) : CR := match r with
 | .n (.mk τ ds _ w) | .r (.mk τ ds _ w) => o7 ih fn τ ds .ret w
 | .p ch (.mk τ ds _ w) => o7 ih fn τ ds (.pan ch) w
 | .no c f => .no c f
 | _ => .no 208 0
def a3f (ih : Ih) (f : FuncId) (vs : List AV) (w : W) (b : Func × Code) : CR := a4i ih b.1 (aim ih b.1 b.2 f vs false .none w)
def alw (ih : Ih) (f : FuncId) (vs : List AV) (w : W) : CR := match uv f with
 | some b => a3f ih f vs w b
 | none => .no 209 f
def free : AV → Bool
 | .bool _ => true
 | .int _ _ => true
 | .str _ _ => true
 | .nilPtr => true
 | .nilSlice => true
 | .nilMap => true
 | .nilIface => true
 | .nilFunc => true
 | _ => false
def aps : List AV → Bool
 | [] => true
 | v :: l => bc (free v) (aps l) false
def o6 : List SA → List SA → Bool
 | [], [] => true
 | .mk lt a b r :: l, .mk lt' a' b' r' :: m => bc (zb lt lt') (bc (fu a a') (bc (fu b b') (bc (zb r r') (o6 l m) false) false) false) false
 | _, _ => false
def am0 : List (Nat × Nat) → List (Nat × Nat) → Bool
 | [], [] => true
 | p :: l, q :: m => bc (Nat.beq p.1 q.1) (bc (Nat.beq p.2 q.2) (am0 l m) false) false
 | _, _ => false
def as9 : GV → GV → Bool
 | .str g A, .str g' A' => bc (mz g g') (o6 A A') false
 | .sl b es n A, .sl b' es' n' A' => bc (K.beq b b') (bc (Nat.beq es es') (bc (fu n n') (o6 A A') false) false) false
 | .ptr b es i o A, .ptr b' es' i' o' A' => bc (K.beq b b') (bc (Nat.beq es es') (bc (fu i i') (bc (Nat.beq o o') (o6 A A') false) false) false) false
 | .sr b o n A, .sr b' o' n' A' => bc (K.beq b b') (bc (fu o o') (bc (fu n n') (o6 A A') false) false) false
 | .pr b o i A, .pr b' o' i' A' => bc (K.beq b b') (bc (fu o o') (bc (fu i i') (o6 A A') false) false) false
 | _, _ => false
def axe : AV → AV → Bool
 | .bool a, .bool b => (match a, b with | true, true => true | false, false => true | _, _ => false)
 | .int k m, .int l n => bc (qs k l) (ac4 m n) false
 | .str l n, .str l' n' => sEq l n l' n'
 | .nilPtr, .nilPtr => true
 | .ptr b o, .ptr b' o' => bc (K.beq b b') (Nat.beq o o') false
 | .nilSlice, .nilSlice => true
 | .slice b o len cap none, .slice b' o' len' cap' none => bc (K.beq b b') (bc (Nat.beq o o') (bc (Nat.beq len len') (Nat.beq cap cap') false) false) false
 | .slice b o len cap (some e), .slice b' o' len' cap' (some e') => bc (K.beq b b') (bc (Nat.beq o o') (bc (Nat.beq len len') (bc (Nat.beq cap cap') (Nat.beq e e') false) false) false) false
 | .nilMap, .nilMap => true
 | .map b, .map b' => K.beq b b'
 | .nilFunc, .nilFunc => true
 | .nilIface, .nilIface => true
 | .wse b, .wse b' => K.beq b b'
 | .sym k e A, .sym k' e' A' => bc (qs k k') (bc (fu e e') (o6 A A') false) false
 | .sx c e A, .sx c' e' A' => bc (Nat.beq c c') (bc (fu e e') (am0 A A') false) false
 | .gv x, .gv y => as9 x y
 | .wsl b k d n, .wsl b' k' d' n' => bc (K.beq b b') (bc (K.beq k k') (bc (Nat.beq d d') (Nat.beq n n') false) false) false
 | .wptr b k i, .wptr b' k' i' => bc (K.beq b b') (bc (K.beq k k') (Nat.beq i i') false) false
 | .esl, .esl => true
 | .top, .top => true
 | _, _ => false
def zx (f : AV → AV → Bool) : List AV → List AV → Bool
 | [], [] => true
 | a :: l, b :: m => bc (f a b) (zx f l m) false
 | _, _ => false
def a8t : Fn → Fn → Bool
 | .func f, .func g => Nat.beq f g
 | .yield f, .yield g => Nat.beq f g
 | _, _ => false
def ajc : Nat → AV → AV → Bool
 | 0, _, _ => false
 | n + 1, a, b => match a, b with
   | .agg l, .agg m => zx (ajc n) l m
   | .tuple l, .tuple m => zx (ajc n) l m
   | .iface t x, .iface t' y => bc (Nat.beq t t') (ajc n x y) false
   | .func f x y, .func g x' y' => bc (a8t f g) (bc (zx (ajc n) x x') (zx (ajc n) y y') false) false
   | a, b => axe a b
def bcb (a b : AV) : Bool := ajc 8 a b
inductive LE where
 | mk (g : Nat) (cells : List AV)
abbrev ctA : List AV := [.int .u8 128, .int .u8 191, .int .u8 160, .int .u8 191, .int .u8 128, .int .u8 159, .int .u8 144, .int .u8 191, .int .u8 128, .int .u8 143, .int .u8 0, .int .u8 0, .int .u8 0, .int .u8 0, .int .u8 0, .int .u8 0, .int .u8 0, .int .u8 0, .int .u8 0, .int .u8 0, .int .u8 0, .int .u8 0, .int .u8 0, .int .u8 0, .int .u8 0, .int .u8 0, .int .u8 0, .int .u8 0, .int .u8 0, .int .u8 0, .int .u8 0, .int .u8 0]
abbrev ctB : List AV := [.int .u8 240, .int .u8 240, .int .u8 240, .int .u8 240, .int .u8 240, .int .u8 240, .int .u8 240, .int .u8 240, .int .u8 240, .int .u8 240, .int .u8 240, .int .u8 240, .int .u8 240, .int .u8 240, .int .u8 240, .int .u8 240, .int .u8 240, .int .u8 240, .int .u8 240, .int .u8 240, .int .u8 240, .int .u8 240, .int .u8 240, .int .u8 240, .int .u8 240, .int .u8 240, .int .u8 240, .int .u8 240, .int .u8 240, .int .u8 240, .int .u8 240, .int .u8 240, .int .u8 240, .int .u8 240, .int .u8 240, .int .u8 240, .int .u8 240, .int .u8 240, .int .u8 240, .int .u8 240, .int .u8 240, .int .u8 240, .int .u8 240, .int .u8 240, .int .u8 240, .int .u8 240, .int .u8 240, .int .u8 240, .int .u8 240, .int .u8 240, .int .u8 240, .int .u8 240, .int .u8 240, .int .u8 240, .int .u8 240, .int .u8 240, .int .u8 240, .int .u8 240, .int .u8 240, .int .u8 240, .int .u8 240, .int .u8 240, .int .u8 240, .int .u8 240, .int .u8 240, .int .u8 240, .int .u8 240, .int .u8 240, .int .u8 240, .int .u8 240, .int .u8 240, .int .u8 240, .int .u8 240, .int .u8 240, .int .u8 240, .int .u8 240, .int .u8 240, .int .u8 240, .int .u8 240, .int .u8 240, .int .u8 240, .int .u8 240, .int .u8 240, .int .u8 240, .int .u8 240, .int .u8 240, .int .u8 240, .int .u8 240, .int .u8 240, .int .u8 240, .int .u8 240, .int .u8 240, .int .u8 240, .int .u8 240, .int .u8 240, .int .u8 240, .int .u8 240, .int .u8 240, .int .u8 240, .int .u8 240, .int .u8 240, .int .u8 240, .int .u8 240, .int .u8 240, .int .u8 240, .int .u8 240, .int .u8 240, .int .u8 240, .int .u8 240, .int .u8 240, .int .u8 240, .int .u8 240, .int .u8 240, .int .u8 240, .int .u8 240, .int .u8 240, .int .u8 240, .int .u8 240, .int .u8 240, .int .u8 240, .int .u8 240, .int .u8 240, .int .u8 240, .int .u8 240, .int .u8 240, .int .u8 240, .int .u8 240, .int .u8 240, .int .u8 241, .int .u8 241, .int .u8 241, .int .u8 241, .int .u8 241, .int .u8 241, .int .u8 241, .int .u8 241, .int .u8 241, .int .u8 241, .int .u8 241, .int .u8 241, .int .u8 241, .int .u8 241, .int .u8 241, .int .u8 241, .int .u8 241, .int .u8 241, .int .u8 241, .int .u8 241, .int .u8 241, .int .u8 241, .int .u8 241, .int .u8 241, .int .u8 241, .int .u8 241, .int .u8 241, .int .u8 241, .int .u8 241, .int .u8 241, .int .u8 241, .int .u8 241, .int .u8 241, .int .u8 241, .int .u8 241, .int .u8 241, .int .u8 241, .int .u8 241, .int .u8 241, .int .u8 241, .int .u8 241, .int .u8 241, .int .u8 241, .int .u8 241, .int .u8 241, .int .u8 241, .int .u8 241, .int .u8 241, .int .u8 241, .int .u8 241, .int .u8 241, .int .u8 241, .int .u8 241, .int .u8 241, .int .u8 241, .int .u8 241, .int .u8 241, .int .u8 241, .int .u8 241, .int .u8 241, .int .u8 241, .int .u8 241, .int .u8 241, .int .u8 241, .int .u8 241, .int .u8 241, .int .u8 2, .int .u8 2, .int .u8 2, .int .u8 2, .int .u8 2, .int .u8 2, .int .u8 2, .int .u8 2, .int .u8 2, .int .u8 2, .int .u8 2, .int .u8 2, .int .u8 2, .int .u8 2, .int .u8 2, .int .u8 2, .int .u8 2, .int .u8 2, .int .u8 2, .int .u8 2, .int .u8 2, .int .u8 2, .int .u8 2, .int .u8 2, .int .u8 2, .int .u8 2, .int .u8 2, .int .u8 2, .int .u8 2, .int .u8 2, .int .u8 19, .int .u8 3, .int .u8 3, .int .u8 3, .int .u8 3, .int .u8 3, .int .u8 3, .int .u8 3, .int .u8 3, .int .u8 3, .int .u8 3, .int .u8 3, .int .u8 3, .int .u8 35, .int .u8 3, .int .u8 3, .int .u8 52, .int .u8 4, .int .u8 4, .int .u8 4, .int .u8 68, .int .u8 241, .int .u8 241, .int .u8 241, .int .u8 241, .int .u8 241, .int .u8 241, .int .u8 241, .int .u8 241, .int .u8 241, .int .u8 241, .int .u8 241]
def laidL : List LE := [.mk 1 ctA, .mk 0 ctB, .mk 3 [.int .u64 1, .int .u64 10, .int .u64 100, .int .u64 1000, .int .u64 10000, .int .u64 100000, .int .u64 1000000, .int .u64 10000000, .int .u64 100000000, .int .u64 1000000000, .int .u64 10000000000, .int .u64 100000000000, .int .u64 1000000000000, .int .u64 10000000000000, .int .u64 100000000000000, .int .u64 1000000000000000, .int .u64 10000000000000000, .int .u64 100000000000000000, .int .u64 1000000000000000000, .int .u64 10000000000000000000]]
def qt : List LE → W → Bool
 | [], _ => true
 | .mk g cs :: l, w => (match db (K.of g) w with
   | .ro t _ _ => bc (Nat.beq t (Nat.succ g)) (qt l w) false
   | _ => false)
def j4 : List LE → H4
 | [] => ag9
 | .mk g cs :: l => co (K.of g) (.ro (Nat.succ g) (b9 cs) (mo cs 0 (jm (b9 cs)))) (j4 l)
def ue : List LE → Bool
 | [] => true
 | .mk g cs :: l => bc (Nat.ble g 255 && aps cs && Nat.ble (b9 cs) 65536) (ue l) false
def wS : W := .mk (j4 laidL) (K.of 256)
def bjq (o : Option CR) : Ih → FuncId → List AV → W → CR := Option.rec (motive := fun _ => Ih → FuncId → List AV → W → CR) alw (fun r _ _ _ _ => r) o
def enter (ih : Ih) (f : FuncId) (vs : List AV) (w : W) : CR := bjq (ih.hook f vs w) ih f vs w
def y9 (nt : Nat) : List Nat → List AV → F → F
 | t :: ts, v :: vs, τ => y9 nt ts vs (aj5 nt t v τ)
 | _, _, τ => τ
def ago (b : K) (jump : Option Code) (st : LoopState) (v : Bool) (w : W) : CR := match db b w with
 | .loop _ _ fn nt τ ps x y kd => .ret (.bool v) (wset b (.loop st jump fn nt τ ps x y kd) w)
 | _ => .no 245 0
def ai9 (b : K) (fn : Nat) (r : R) : CR := match r with
 | .n (.mk _ [] _ w) => ago b none .ready true w
 | .x id (.mk _ [] _ w) => ago b (some (.exit id)) .done false w
 | .r (.mk _ [] _ w) => ago b (some .ret) .done false w
 | .p ch (.mk _ [] _ w) => bc (ajj fn).isSome (.pan ch w) (.no 244 fn)
 | .no c f => .no c f
 | _ => .no 244 fn
def aop (ih : Ih) (b : K) (fn nt : Nat) (y : Code) (r : R) : CR := match r with
 | .n (.mk τ [] um w) => (match db b w with
   | .loop .ready pend fn' nt' τ' ps x y' kd => ai9 b fn (ih y (.mk fn nt false (some b)) (.mk τ [] um (wset b (.loop .busy pend fn' nt' τ' ps x y' kd) w)))
   | _ => .no 242 fn)
 | .no c f => .no c f
 | _ => .no 243 fn
def xm (ih : Ih) (b : K) (vs : List AV) (w : W) : CR := match db b w with
 | .loop _ _ fn nt τ ps x y _ => bc (Nat.beq (b9 ps) (b9 vs)) (aop ih b fn nt y (ih x (.mk fn nt false (some b)) (.mk (y9 nt ps vs τ) [] .none w))) (.no 240 fn)
 | _ => .no 241 0
def lm (g : Nat × Bool) (all : List Oper) (τ : F) : Option Bool :=
 match (nth all g.1).bind (·.dst) with
 | some d => (match ij d τ with | .bool b => some (b == g.2) | .tuple _ => some false | _ => none)
 | none => none
def bmt (v : AV) (w : W) (dst : Option Nat) (IH : Oh) (ih : Ih) (all : List Oper) (C : Ctx) (τ : F) (ds : List AD) (um : UM) : R :=
 IH ih all C (.mk (po C.nt dst v τ) ds um w)
def crK (r : CR) : Option Nat → Oh → Ih → List Oper → Ctx → F → List AD → UM → R :=
 CR.rec (motive := fun _ => Option Nat → Oh → Ih → List Oper → Ctx → F → List AD → UM → R)
  bmt
  (fun ch w _ _ _ _ _ τ ds um => .p ch (.mk τ ds um w))
  (fun c f _ _ _ _ _ _ _ _ => .no c f) r
def bmr (f : FuncId) (vs : List AV) (w : W) (dst : Option Nat) (IH : Oh) (ih : Ih) (all : List Oper) (C : Ctx) (τ : F) (ds : List AD) (um : UM) : R :=
 crK (enter ih f vs w) dst IH ih all C τ ds um
def bpt (b : K) (vs : List AV) (w : W) (dst : Option Nat) (IH : Oh) (ih : Ih) (all : List Oper) (C : Ctx) (τ : F) (ds : List AD) (um : UM) : R :=
 crK (xm ih b vs w) dst IH ih all C τ ds um
def bps (v : AV) (w : W) (dst : Option Nat) (IH : Oh) (ih : Ih) (all : List Oper) (C : Ctx) (τ : F) (ds : List AD) (um : UM) : R := .p [.mk v false] (.mk τ ds um w)
def bpr (d : AD) (w : W) (dst : Option Nat) (IH : Oh) (ih : Ih) (all : List Oper) (C : Ctx) (τ : F) (ds : List AD) (um : UM) : R :=
 match C.round with
 | none => IH ih all C (.mk (po C.nt dst ir τ) (d :: ds) um w)
 | some _ => .no 211 C.fn
def aq9 (w : W) (dst : Option Nat) (IH : Oh) (ih : Ih) (all : List Oper) (C : Ctx) (τ : F) (ds : List AD) (um : UM) : R :=
 match C.round, C.dfr, um with
 | some _, _, _ => .no 212 C.fn
 | none, true, .pan (.mk v false :: older) => IH ih all C (.mk (po C.nt dst v τ) ds (.pan (.mk v true :: older)) w)
 | none, _, um => IH ih all C (.mk (po C.nt dst .nilIface τ) ds um w)
def orK (r : OR) : Option Nat → Oh → Ih → List Oper → Ctx → F → List AD → UM → R :=
 OR.rec (motive := fun _ => Option Nat → Oh → Ih → List Oper → Ctx → F → List AD → UM → R)
  bmt bmr bpt bps bpr aq9 (fun c _ _ _ _ C _ _ _ => .no c C.fn) r
def oGo (dst : Option Nat) (op : Op) (IH : Oh) (ih : Ih) (all : List Oper) (C : Ctx) (S : FSt) : R :=
 FSt.rec (motive := fun _ => Option Nat → Op → Oh → Ih → List Oper → Ctx → R)
  (fun τ ds um w dst op IH ih all C => orK (gOp op τ w) dst IH ih all C τ ds um) S dst op IH ih all C
def bb6 (dst : Option Nat) (IH : Oh) (ih : Ih) (all : List Oper) (C : Ctx) (S : FSt) : R :=
 FSt.rec (motive := fun _ => Option Nat → Oh → Ih → List Oper → Ctx → R)
  (fun τ ds um w dst IH ih all C => IH ih all C (.mk (po C.nt dst ir τ) ds um w)) S dst IH ih all C
def bfq (g : Nat × Bool) (dst : Option Nat) (op : Op) (IH : Oh) (ih : Ih) (all : List Oper) (C : Ctx) (S : FSt) : R :=
 match S with
 | .mk τ _ _ _ => match lm g all τ with
   | some true => oGo dst op IH ih all C S
   | some false => bb6 dst IH ih all C S
   | none => .no 213 C.fn
def am1 (g : Option (Nat × Bool)) : Option Nat → Op → Oh → Ih → List Oper → Ctx → FSt → R :=
 Option.rec (motive := fun _ => Option Nat → Op → Oh → Ih → List Oper → Ctx → FSt → R) oGo bfq g
def bms (o : Oper) : Oh → Ih → List Oper → Ctx → FSt → R :=
 Oper.rec (motive := fun _ => Oh → Ih → List Oper → Ctx → FSt → R)
  (fun dst op _ _ _ g IH ih all C S => am1 g dst op IH ih all C S) o
def tu (l : List Oper) : Oh :=
 List.rec (motive := fun _ => Oh) (fun _ _ _ S => .n S) (fun o _ IH ih all C S => bms o IH ih all C S) l
def tb (m i : Nat) : Bool := Nat.beq (Nat.land (Nat.shiftRight m i) 1) 1
def ait : Nat := 115792089237316195423570985008687907853269984665640564039457584007913129639936
def fld (M t : Nat) : Nat := Nat.mod (Nat.shiftRight M (Nat.mul t 256)) ait
def apr (M t m : Nat) : Nat := Nat.lor M (Nat.shiftLeft (Nat.mod m ait) (Nat.mul t 256))
def a6i (x y : Nat) : Bool := Nat.beq (Nat.land x y) x
def av0 : List Edge → Nat → Nat → Nat
 | [], _, s => s
 | e :: es, B, s => av0 es B (bc (Region.binds .any e) (Nat.lor (Nat.lor s (Nat.shiftLeft 1 e.on)) (fld B e.on)) s)
def bc1 : List Oper → Nat → Nat → Nat
 | [], _, B => B
 | o :: os, j, B => bc1 os (Nat.succ j) (apr B j (av0 o.after.toList B 0))
def afw (ops : Array Oper) : Nat := bc1 ops.toList 0 0
def cr (ops : Array Oper) (j : Nat) : Nat := fld (afw ops) j
def c8 (ops : Array Oper) (i j : Nat) : Bool := tb (cr ops j) i
inductive CL where
 | pu
 | rd
 | fl
 | ef
 | mu
def yy : Op → CL
 | .move _ => .pu
 | .assign _ => .pu
 | .fieldAddr .. => .pu
 | .extract .. => .pu
 | .nilCheck _ => .pu
 | .load .. => .rd
 | .lookup .. => .rd
 | .convert .. => .rd
 | .binOp .. => .rd
 | .unOp .. => .rd
 | .index .. => .rd
 | .indexAddr .. => .rd
 | .field .. => .rd
 | .slice .. => .rd
 | .typeAssert .. => .rd
 | .pick .. => .rd
 | .build .. => .rd
 | .makeInterface .. => .rd
 | .makeFunc .. => .rd
 | .call { callee := .builtin .len, .. } => .rd
 | .call { callee := .builtin .min, .. } => .rd
 | .alloc _ => .fl
 | .box .. => .fl
 | .buildSlice .. => .fl
 | .makeMap .. => .fl
 | _ => .ef
inductive PM where
 | none
 | mk (i d : Nat)
def bh7 (t : Nat) (d : Nat) : CL := bc (Nat.beq t d) .mu .ef
def a8d (d : Nat) : Op → CL
 | .insert _ (.tmp t) _ _ => bh7 t d
 | op => yy op
def cls (pm : PM) (op : Op) : CL := PM.rec (motive := fun _ => Op → CL) yy (fun _ d => a8d d) pm op
def isP (pm : PM) (j : Nat) : Bool := match pm with
 | .none => false
 | .mk i _ => Nat.beq i j
def noP : PM → Bool
 | .none => true
 | .mk _ _ => false
def bdx : Op → Bool
 | .makeMap _ _ => true
 | _ => false
def a0w : List Oper → Nat → PM
 | [], _ => .none
 | o :: l, i => bc (bdx o.op) (match o.dst with
   | some d => .mk i d
   | none => a0w l (Nat.succ i)) (a0w l (Nat.succ i))
inductive PV where
 | none
 | mk (k : K) (es : List (AV × AV))
def ajr (a b : AV) : Bool := match pa a b, pa b a with
 | some false, some false => true
 | _, _ => false
def aap (a : AV) : List (AV × AV) → Bool
 | [] => true
 | e :: l => bc (ajr a e.1) (aap a l) false
def arf : List (AV × AV) → Bool
 | [] => true
 | e :: l => bc (aap e.1 l) (arf l) false
def a5t : PV → Bool
 | .none => true
 | .mk _ es => arf es
def awc (k : K) : AV → Bool
 | .map b => K.beq b k
 | _ => false
def a2u (p : PV) (w : W) : W := match p with
 | .none => w
 | .mk k es => wset k (.umap es) w
def a32 : CL → Bool
 | .ef => true
 | _ => false
def bjy : CL → Bool
 | .fl => true
 | _ => false
def a16 (p : Nat → Bool) : Nat → Bool
 | 0 => true
 | n + 1 => bc (p n) (a16 p n) false
def pb (pm : PM) : List Oper → Nat
 | [] => 0
 | o :: l => bc (bjy (cls pm o.op)) (pb pm l + 1) (pb pm l)
def adf (ops : Array Oper) : Nat := b9 ops.toList
def zo (pm : PM) : List Oper → Nat → List Nat
 | [], _ => []
 | o :: l, j => bc (a32 (cls pm o.op)) (j :: zo pm l (Nat.succ j)) (zo pm l (Nat.succ j))
def ajh (pm : PM) (ops : Array Oper) : List Nat := zo pm ops.toList 0
def aft (p : Nat → Bool) : List Nat → Bool
 | [] => true
 | x :: l => bc (p x) (aft p l) false
def aeo (pm : PM) (ops : Array Oper) (j e : Nat) : Bool :=
 aft (fun x => bc (bc (c8 ops x j) (Nat.blt x e) true) (bc (Nat.blt x e) (acj (c8 ops j x)) true) false) (ajh pm ops)
def uh (pm : PM) (ops : Array Oper) (j : Nat) : Bool :=
 acj (aft (fun x => bc (bc (Nat.blt x j) (c8 ops x j) true) (bc (Nat.blt j x) (c8 ops j x) true) false) (ajh pm ops))
def adn : List Operand → List Nat
 | [] => []
 | .tmp t :: l => t :: adn l
 | _ :: l => adn l
def o5 (all : List Oper) (o : Oper) : List Nat :=
 adn o.op.operands.toList ++ (o.dst.toList ++ (match o.guard with
  | some g => ((nth all g.1).bind (·.dst)).toList
  | none => []))
def aa1 (j : Nat) : List Edge → Bool
 | [] => true
 | e :: l => bc (bc (Region.binds .any e) (Nat.blt e.on j) true) (aa1 j l) false
def auj (Wm b : Nat) : List Nat → Bool
 | [] => true
 | t :: l => bc (a6i (fld Wm t) b) (auj Wm b l) false
def bih (Rm b : Nat) : Option Nat → Bool
 | none => true
 | some d => a6i (fld Rm d) b
def bhy (Wm j : Nat) : Option Nat → Nat
 | none => Wm
 | some d => apr Wm d (Nat.shiftLeft 1 j)
def bcx (j : Nat) : List Nat → Nat → Nat
 | [], Rm => Rm
 | t :: l, Rm => bcx j l (apr Rm t (Nat.shiftLeft 1 j))
def avv (pm : PM) (all : List Oper) (B : Nat) : List Oper → Nat → Nat → Nat → Nat → Bool
 | [], _, _, _, _ => true
 | o :: os, j, Wm, Rm, Em =>
   bc (aa1 j o.after.toList) (bc (auj Wm (fld B j) (o5 all o)) (bc (bih Rm (fld B j) o.dst) (bc (bc (a32 (cls pm o.op)) (a6i Em (fld B j)) true)
    (avv pm all B os (Nat.succ j) (bhy Wm j o.dst) (bcx j (o5 all o) Rm) (bc (a32 (cls pm o.op)) (Nat.lor Em (Nat.shiftLeft 1 j)) Em)) false) false) false) false
def zn (pm : PM) (ops : Array Oper) : Bool := bc (Nat.ble (adf ops) 256) (avv pm ops.toList (afw ops) ops.toList 0 0 0 0) false
def dummy : Oper := { dst := none, op := .move (.func 0), type := 0, pos := "", after := #[], guard := none }
def mj (B p : Nat) : List Oper → Nat → List Oper
 | [], _ => []
 | o :: l, j => bc (tb (fld B j) p) dummy o :: mj B p l (Nat.succ j)
def ej (ops : Array Oper) (p : Nat) : Array Oper := (mj (afw ops) p ops.toList 0).toArray
def ag8 (ops : Array Oper) (p : Nat) (o : Oper) : Bool := match o.guard with
 | some g => acj (c8 ops p g.1)
 | none => true
def bb8 (ops opsT : Array Oper) (p j : Nat) : Bool := bc (c8 ops p j) true (bc (Nat.beq (cr ops j) (cr opsT j)) (bc (bc (uh .none opsT j) (uh .none ops j) true) (match nth ops.toList j with
 | some o => ag8 ops p o
 | none => true) false) false)
def a5o (ops opsT : Array Oper) (p : Nat) : Bool := bc (zn .none opsT) (bc (a16 (fun j => acj (c8 ops p j)) (Nat.succ p)) (a16 (bb8 ops opsT p) (adf ops)) false) false
def zk (nt : Nat) : List Oper → F → F
 | [], τ => τ
 | o :: l, τ => zk nt l (po nt o.dst .top τ)
inductive PF where
 | mk (i : Nat) (k : K) (o : AObj)
inductive RC where
 | mk (i : Nat) (op : Op) (τ : F) (v : AV)
inductive DS where
 | mk (τ : F) (w : W) (fk : K) (pend : List PF) (hist : List (Nat × W)) (recs : List RC) (pv : PV)
inductive DX where
 | ok (s : DS)
 | pan (ch : List PE) (w : W) (p : Nat) (s : DS)
 | no (c f : Nat)
def d9 (m : Nat) : List PF → W → W
 | [], w => w
 | .mk i k o :: l, w => bc (tb m i) (wset k o (d9 m l w)) (d9 m l w)
def wm (m : Nat) : List PF → List PF
 | [] => []
 | .mk i k o :: l => bc (tb m i) (wm m l) (.mk i k o :: wm m l)
def agd : List PF → W → W
 | [], w => w
 | .mk _ k o :: l, w => wset k o (agd l w)
def hOf : W → H4 | .mk h _ => h
def a2t (o : Oper) (nt fn : Nat) : DS → DX
 | .mk τ w fk pend hist recs pv => match gD o.op τ w with
   | .val v _ => .ok (.mk (po nt o.dst v τ) w fk pend hist recs pv)
   | .no c => .no c fn
   | _ => .no 230 fn
def alm (o : AObj) (off : Nat) : Option AV := match o with
 | .cells _ s _ _ _ c => bc (Nat.blt off s) (some (ti c off)) none
 | _ => none
def amb (pm : PM) (ops : Array Oper) (m : Nat) (k : K) (off : Nat) : List PF → Option AV
 | [] => none
 | .mk i k' o :: l => bc (K.beq k k' && (tb m i && aft (fun x => acj (tb (cr ops x) i)) (ajh pm ops))) (alm o off) (amb pm ops m k off l)
def aha (pm : PM) (ops : Array Oper) (j : Nat) (op : Op) (τ : F) (pend : List PF) : Option AV := match op with
 | .load t a => (match qj t, evX a τ with
   | some none, .ptr k off => amb pm ops (cr ops j) k off pend
   | _, _ => none)
 | _ => none
def a2v (pm : PM) (ops : Array Oper) (i : Nat) (o : Oper) (nt fn : Nat) : DS → DX
 | .mk τ w fk pend hist recs pv => match gD o.op τ w with
   | .val v _ => .ok (.mk (po nt o.dst v τ) w fk pend hist (bc (uh pm ops i) (.mk i o.op τ v :: recs) recs) pv)
   | .no c => (match aha pm ops i o.op τ pend with
     | some v => .ok (.mk (po nt o.dst v τ) w fk pend hist recs pv)
     | none => .no c fn)
   | _ => .no 231 fn
def a33 : AObj → Bool
 | .map [] => true
 | _ => false
def as0 (pm : PM) (i : Nat) (o : Oper) (nt fn : Nat) : DS → DX
 | .mk τ w fk pend hist recs pv => match gD o.op τ (.mk (hOf w) fk) with
   | .val v (.mk h' _) => bc (isP pm i)
      (bc (a33 (ab fk h')) (.ok (.mk (po nt o.dst v τ) w fk.succ pend hist recs (.mk fk []))) (.no 239 fn))
      (.ok (.mk (po nt o.dst v τ) w fk.succ (.mk i fk (ab fk h') :: pend) hist recs pv))
   | .no c => .no c fn
   | _ => .no 232 fn
def dMu (o : Oper) (nt fn : Nat) : DS → DX
 | .mk τ w fk pend hist recs (.mk k es) => (match o.op, o.guard with
   | .insert t m x y, none => bc (nd t && ake t (evX x τ) && awc k (evX m τ))
      (.ok (.mk (po nt o.dst ir τ) w fk pend hist recs (.mk k (es ++ [(evX x τ, evX y τ)])))) (.no 229 fn)
   | _, _ => .no 228 fn)
 | _ => .no 227 fn
def a8m (pm : PM) (ih : Ih) (ops : Array Oper) (i : Nat) (o : Oper) (nt fn : Nat) : DS → DX
 | .mk τ w fk pend hist recs pv => match gD o.op τ (d9 (cr ops i) pend w) with
   | .val v w' => .ok (.mk (po nt o.dst v τ) w' fk (wm (cr ops i) pend) ((i, w) :: hist) recs pv)
   | .call f vs w' => (match enter ih f vs w' with
     | .ret v w'' => .ok (.mk (po nt o.dst v τ) w'' fk (wm (cr ops i) pend) ((i, w) :: hist) recs pv)
     | .no c f => .no c f
     | .pan ch w'' => bc (noP pm) (.pan ch w'' i (.mk (po nt o.dst .top τ) (d9 (cr ops i) pend w) fk (wm (cr ops i) pend) ((i, w) :: hist) recs pv)) (.no 233 fn))
   | .no c => .no c fn
   | _ => .no 234 fn
def dGo (pm : PM) (ih : Ih) (ops : Array Oper) (i : Nat) (o : Oper) (nt fn : Nat) (s : DS) : DX := match cls pm o.op with
 | .pu => a2t o nt fn s
 | .rd => a2v pm ops i o nt fn s
 | .fl => as0 pm i o nt fn s
 | .ef => a8m pm ih ops i o nt fn s
 | .mu => dMu o nt fn s
def a2x (pm : PM) (ops : Array Oper) (i : Nat) (o : Oper) (nt : Nat) : DS → DX
 | .mk τ w fk pend hist recs pv => match cls pm o.op with
   | .ef => .ok (.mk (po nt o.dst ir τ) (d9 (cr ops i) pend w) fk (wm (cr ops i) pend) ((i, w) :: hist) recs pv)
   | .mu => .no 226 0
   | _ => .ok (.mk (po nt o.dst ir τ) w fk pend hist recs pv)
def DS.τ : DS → F | .mk τ .. => τ
def DS.w : DS → W | .mk _ w .. => w
def DS.fk : DS → K | .mk _ _ fk .. => fk
def DS.pend : DS → List PF | .mk _ _ _ p .. => p
def DS.hist : DS → List (Nat × W) | .mk _ _ _ _ h .. => h
def DS.recs : DS → List RC | .mk _ _ _ _ _ r _ => r
def DS.pv : DS → PV | .mk _ _ _ _ _ _ p => p
def sa (pm : PM) (ih : Ih) (ops : Array Oper) (i : Nat) (o : Oper) (nt fn : Nat) (s : DS) : DX := match o.guard with
 | none => dGo pm ih ops i o nt fn s
 | some g => match lm g ops.toList s.τ with
   | some true => dGo pm ih ops i o nt fn s
   | some false => a2x pm ops i o nt s
   | none => .no 235 fn
def a2s (r : DX) (k : DS → DX) : DX := match r with
 | .ok s => k s
 | .pan ch w p s => .pan ch w p s
 | .no c f => .no c f
def agf (pm : PM) (ih : Ih) (ops : Array Oper) (nt fn : Nat) : List Oper → Nat → DS → DX
 | [], _, s => .ok s
 | o :: l, i, s => a2s (sa pm ih ops i o nt fn s) (agf pm ih ops nt fn l (i + 1))
def a5z (op : Op) (τ : F) (v : AV) (w : W) : Bool := match gD op τ w with
 | .val v' _ => bcb v v'
 | _ => false
def a2w (pm : PM) (ops : Array Oper) : RC → List (Nat × W) → Bool
 | _, [] => true
 | .mk i op τ v, (e, w) :: l => bc (bc (aeo pm ops i e) (a5z op τ v w) true) (a2w pm ops (.mk i op τ v) l) false
def y7 (pm : PM) (ops : Array Oper) : List RC → List (Nat × W) → Bool
 | [], _ => true
 | r :: l, h => bc (a2w pm ops r h) (y7 pm ops l h) false
def apf (ops opsT : Array Oper) (fn nt : Nat) (τ0 : F) (ds : List AD) (um : UM) (ch : List PE) (w2 : W) : DX → R
 | .ok (.mk _ w _ _ hist recs _) => bc (y7 .none opsT recs ((adf ops, w) :: hist)) (.p ch (.mk (zk nt ops.toList τ0) ds um w2)) (.no 236 fn)
 | .pan _ _ _ _ => .no 225 fn
 | .no c f => .no c f
def avu (ih : Ih) (ops opsT : Array Oper) (fn nt : Nat) (τ0 : F) (ds : List AD) (um : UM) (ch : List PE) (w2 : W) (p : Nat) (s : DS) : R :=
 bc (a5o ops opsT p) (apf ops opsT fn nt τ0 ds um ch w2 (agf .none ih opsT nt fn (opsT.toList.drop (Nat.succ p)) (Nat.succ p) s)) (.no 233 fn)
def bdg (pm : PM) (ih : Ih) (ops : Array Oper) (fn nt : Nat) (τ0 : F) (ds : List AD) (um : UM) : DX → R
 | .ok (.mk τ w _ pend hist recs pv) => bc (y7 pm ops recs ((adf ops, w) :: hist) && a5t pv) (.n (.mk τ ds um (a2u pv (agd pend w)))) (.no 236 fn)
 | .pan ch w2 p s => avu ih ops (ej ops p) fn nt τ0 ds um ch w2 p s
 | .no c f => .no c f
def arn : Nat → K → Option K
 | 0, k => some k
 | n + 1, k => bc k.isMax none (arn n k.succ)
def agi (pm : PM) (ih : Ih) (ops : Array Oper) (nt fn : Nat) (τ : F) (h : H4) (nx : K) (ds : List AD) (um : UM) : Option K → R
 | some nx' => bdg pm ih ops fn nt τ ds um (agf pm ih ops nt fn ops.toList 0 (.mk τ (.mk h nx') nx [] [] [] .none))
 | none => .no 237 fn
def af0 (pm : PM) (ops : Array Oper) (ih : Ih) (C : Ctx) : FSt → R
 | .mk τ ds um (.mk h nx) => bc (zn pm ops) (agi pm ih ops C.nt C.fn τ h nx ds um (arn (pb pm ops.toList) nx)) (.no 238 C.fn)
def avm (_ : Nat) (ops : Array Oper) (ih : Ih) (C : Ctx) (S : FSt) : R := bc (zn .none ops) (af0 .none ops ih C S) (af0 (a0w ops.toList 0) ops ih C S)
def bc6 (_ : Nat) (ops : Array Oper) (ih : Ih) (C : Ctx) (S : FSt) : R := tu ops.toList ih ops.toList C S
def a79 (id : Nat) (ops : Array Oper) (draw : Bool) : Ih → Ctx → FSt → R := Bool.rec (motive := fun _ => Nat → Array Oper → Ih → Ctx → FSt → R) bc6 avm draw id ops
def aii (r : R) : Ih → Code → Ctx → R := R.rec (motive := fun _ => Ih → Code → Ctx → R)
 (fun S ih b C => ih b C S) (fun id S _ _ _ => .x id S) (fun S _ _ _ => .r S) (fun ch S _ _ _ => .p ch S) (fun c f _ _ _ => .no c f) r
abbrev Rh := Ih → Ctx → FSt → R
def boo (a b : Code) (_ _ : Rh) (ih : Ih) (C : Ctx) (S : FSt) : R := aii (ih a C S) ih b C
def a2k (v : AV) (x y : Code) (ih : Ih) (C : Ctx) (S : FSt) : R := match v with
 | .bool b => ih (bc b x y) C S
 | _ => .no 214 C.fn
def FSt.τ (S : FSt) : F := FSt.rec (motive := fun _ => F) (fun τ _ _ _ => τ) S
def bh5 (c : Operand) (x y : Code) (_ _ : Rh) (ih : Ih) (C : Ctx) (S : FSt) : R := a2k (evX c S.τ) x y ih C S
def ass (r : R) : Nat → R := R.rec (motive := fun _ => Nat → R)
 (fun S _ => .n S) (fun id' S id => bc (Nat.beq id' id) (.n S) (.x id' S)) (fun S _ => .r S) (fun ch S _ => .p ch S) (fun c f _ => .no c f) r
def bc5 (id : Nat) (b : Code) (_ : Rh) (ih : Ih) (C : Ctx) (S : FSt) : R := ass (ih b C S) id
def wc (b : Code) (ih : Ih) (C : Ctx) (S : FSt) : R := aii (ih b C S) ih (.loop b) C
def awr (o : Option R) : Code → Ih → Ctx → FSt → R := Option.rec (motive := fun _ => Code → Ih → Ctx → FSt → R) wc (fun r _ _ _ _ => r) o
def bh6 (b : Code) (_ : Rh) (ih : Ih) (C : Ctx) (S : FSt) : R := awr (ih.lp C b S) b ih C S
def a30 : LoopState → Bool
 | .busy => true
 | _ => false
def a5v (τ : F) (ds : List AD) (um : UM) (kl : K) (r : CR) : R := match r with
 | .ret _ w => (match db kl w with
   | .loop st pend fn nt τ' ps x y kd => bc (a30 st) (.no 248 fn) (match pend with
     | none => .n (.mk τ ds um (wset kl (.loop .exhausted pend fn nt τ' ps x y kd) w))
     | some (.exit id) => .x id (.mk τ ds um (wset kl (.loop .exhausted pend fn nt τ' ps x y kd) w))
     | some .ret => .r (.mk τ ds um (wset kl (.loop .exhausted pend fn nt τ' ps x y kd) w))
     | _ => .no 249 fn)
   | _ => .no 250 0)
 | .pan ch w => .p ch (.mk τ ds um w)
 | .no c f => .no c f
def ah9 (ih : Ih) (fn : Nat) (τ : F) (ds : List AD) (um : UM) (kl : K) (r : OR) : R := match r with
 | .call g vs w => a5v τ ds um kl (enter ih g vs w)
 | _ => .no 247 fn
def alj (f : Operand) (ps : Array Tmp) (x y : Code) (ih : Ih) (C : Ctx) (S : FSt) : R := match S, C.round with
 | .mk τ ds um (.mk h nx), none => bc nx.isMax (.no 246 0) (bc nx.succ.isMax (.no 246 1)
    (ah9 ih C.fn τ (.coll nx :: ds) um nx.succ (ad1 (evX f τ) [.func (.yield nx.succ.num) [] []] (.mk (co nx.succ (.loop .ready none C.fn C.nt τ ps.toList x y nx) (co nx (.deferred (some [])) h)) nx.succ.succ))))
 | _, _ => .no 246 2
def bcp (ih : Ih) (c : Code) : Ctx → FSt → R := Code.rec (motive := fun _ => Rh)
 (fun _ _ S => .n S) a79 boo bh5 bc5 bh6 (fun f ps x y _ _ => alj f ps x y) (fun id _ _ S => .x id S)
 (fun _ _ _ C _ => .no 216 C.fn) (fun _ _ _ S => .n S) (fun _ _ C _ => .no 217 C.fn) (fun _ _ S => .r S) (fun _ _ C _ => .no 218 C.fn) c ih
abbrev afp := FuncId → List AV → W → Option CR
abbrev vu := Ctx → Code → FSt → Option R
def bfl (_ : Ctx) (_ : Code) (_ : FSt) : Option R := none
def bp3 (H : afp) (L : vu) (n : Nat) : Code → Ctx → FSt → R := Nat.rec (motive := fun _ => Code → Ctx → FSt → R) (fun _ _ _ => .no 219 0) (fun _ r => bcp (Ih.mk H r L)) n
def aby (H : afp) (L : vu) (n : Nat) : Ih := Ih.mk H (bp3 H L n) L
def run (H : afp) (n : Nat) : Ih := aby H bfl n
def bfk (_ : FuncId) (_ : List AV) (_ : W) : Option CR := none
inductive HE where
 | mk (f : FuncId) (vs : List AV) (v : AV)
def w0 : W := .mk ag9 (K.of 256)
end
end Go.Ev
