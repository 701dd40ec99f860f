import Derived.Test.YtocilenpboklbaaGreatDoorEvFx
set_option linter.all false
namespace Go.Ev
noncomputable section
inductive PE where
 | mk (v : AV) (rec : Bool)
inductive UM where
 | none
 | ret
 | pan (ch : List PE)
inductive FSt where
 | mk (τ : F) (ds : List AD) (um : UM) (w : W)
inductive Ctx where
 | mk (fn nt : Nat) (dfr : Bool) (round : Option K)
def Ctx.nt (C : Ctx) : Nat := Ctx.rec (motive := fun _ => Nat) (fun _ nt _ _ => nt) C
def Ctx.fn (C : Ctx) : Nat := Ctx.rec (motive := fun _ => Nat) (fun fn _ _ _ => fn) C
def Ctx.dfr (C : Ctx) : Bool := Ctx.rec (motive := fun _ => Bool) (fun _ _ d _ => d) C
def Ctx.round (C : Ctx) : Option K := Ctx.rec (motive := fun _ => Option K) (fun _ _ _ r => r) C
inductive R where
 | n (S : FSt)
 | x (id : Nat) (S : FSt)
 | r (S : FSt)
 | p (ch : List PE) (S : FSt)
 | no (c f : Nat)
inductive CR where
 | ret (v : AV) (w : W)
 | pan (ch : List PE) (w : W)
 | no (c f : Nat)
structure Ih where
 hook : FuncId → List AV → W → Option CR
 run : Code → Ctx → FSt → R
 lp : Ctx → Code → FSt → Option R
instance : CoeFun Ih (fun _ => Code → Ctx → FSt → R) := ⟨Ih.run⟩
abbrev Oh := Ih → List Oper → Ctx → FSt → R
def apn (τ : F) (w : W) : ResultVar → Option AV
 | .tmp t => some (ii t τ)
 | .cell a t => match ii a τ with
   | .ptr b o => (match vm t (.ptr b o) w with
     | .val v _ => some v
     | _ => none)
   | _ => none
def aku (τ : F) (w : W) : List ResultVar → Option (List AV)
 | [] => some []
 | r :: rs => (apn τ w r).bind fun v => (aku τ w rs).map (v :: ·)
def bnl : List AV → AV
 | [v] => v
 | vs => .tuple vs
def results (fn : Func) (τ : F) (w : W) : CR := match aku τ w fn.results.toList with
 | some vs => .ret (bnl vs) w
 | none => .no 200 0
def settle : UM → UM
 | .pan (.mk _ true :: _) => .ret
 | u => u
def raised (u : UM) (ch : List PE) : UM := match u with
 | .pan old => .pan (ch ++ old)
 | _ => .pan ch
inductive DR where
 | ret (u : UM) (w : W)
 | pan (ch : List PE) (u : UM) (w : W)
 | no (c f : Nat)
def ve (f : FuncId) : Option (Func × Code) := match al6 f with
 | some fn => match fn.body with
   | some c => bc (Nat.ble fn.ntmps 512) (some (fn, c)) none
   | none => none
 | none => none
def ak4 (ih : Ih) (fn : Func) (c : Code) (f : FuncId) (vs : List AV) (dfr : Bool) (u : UM) (w : W) : R :=
 bc (Nat.ble (bv vs) fn.ntmps) (ih c (.mk f fn.ntmps dfr none) (.mk (pd vs 0 nh) [] u w)) (.no 201 f)
def aev (fn : Func) (r : R) : DR := match r with
 | .n (.mk τ [] u w) | .r (.mk τ [] u w) => (match results fn τ w with | .ret _ _ => .ret u w | _ => .no 202 0)
 | .p ch (.mk _ [] u w) => .pan ch u w
 | .no c f => .no c f
 | _ => .no 203 0
def ai0 (ih : Ih) (f : FuncId) (vs : List AV) (u : UM) (w : W) : DR := match ve f with
 | some (fn, c) => aev fn (ak4 ih fn c f vs true u w)
 | none => .no 204 f
def pz (ih : Ih) (fn : Func) (τ : F) : List AD → UM → W → CR
 | [], .ret, w => results fn τ w
 | [], .pan ch, w => .pan ch w
 | [], .none, _ => .no 205 0
 | .call (.func f) cap args :: ds, u, w => (match vi f (args ++ cap) w with
   | .call f vs w => (match ai0 ih f vs u w with
     | .ret u' w' => pz ih fn τ ds (settle u') w'
     | .pan ch u' w' => pz ih fn τ ds (raised u' ch) w'
     | .no c f => .no c f)
   | _ => .no 206 0)
 | .coll b :: ds, u, w => (match cy b w with
   | .deferred (some []) => pz ih fn τ ds u (wset b (.deferred none) w)
   | _ => .no 206 1)
 | _ :: _, _, _ => .no 207 0
def bdd (ih : Ih) (fn : Func) (r : R) : CR := match r with
 | .n (.mk τ ds _ w) | .r (.mk τ ds _ w) => pz ih fn τ ds .ret w
 | .p ch (.mk τ ds _ w) => pz ih fn τ ds (.pan ch) w
 | .no c f => .no c f
 | _ => .no 208 0
def baj (ih : Ih) (f : FuncId) (vs : List AV) (w : W) (b : Func × Code) : CR := bdd ih b.1 (ak4 ih b.1 b.2 f vs false .none w)
def aof (ih : Ih) (f : FuncId) (vs : List AV) (w : W) : CR := match ve f with
 | some b => baj ih f vs w b
 | none => .no 209 f
def free : AV → Bool
 | .bool _ => true
 | .int _ _ => true
 | .str _ _ => true
 | .nilPtr => true
 | .nilSlice => true
 | .nilMap => true
 | .nilIface => true
 | .nilFunc => true
 | _ => false
def atc : List AV → Bool
 | [] => true
 | v :: l => bc (free v) (atc l) false
def py : List SA → List SA → Bool
 | [], [] => true
 | .mk lt a b r :: l, .mk lt' a' b' r' :: m => bc (aa6 lt lt') (bc (fw a a') (bc (fw b b') (bc (aa6 r r') (py l m) false) false) false) false
 | _, _ => false
def api : List (Nat × Nat) → List (Nat × Nat) → Bool
 | [], [] => true
 | p :: l, q :: m => bc (Nat.beq p.1 q.1) (bc (Nat.beq p.2 q.2) (api l m) false) false
 | _, _ => false
def ayd : GV → GV → Bool
 | .str g A, .str g' A' => bc (ni g g') (py A A') false
 | .sl b es n A, .sl b' es' n' A' => bc (K.beq b b') (bc (Nat.beq es es') (bc (fw n n') (py A A') false) false) false
 | .ptr b es i o A, .ptr b' es' i' o' A' => bc (K.beq b b') (bc (Nat.beq es es') (bc (fw i i') (bc (Nat.beq o o') (py A A') false) false) false) false
 | .sr b o n A, .sr b' o' n' A' => bc (K.beq b b') (bc (fw o o') (bc (fw n n') (py A A') false) false) false
 | .pr b o i A, .pr b' o' i' A' => bc (K.beq b b') (bc (fw o o') (bc (fw i i') (py A A') false) false) false
 | _, _ => false
def a25 : AV → AV → Bool
 | .bool a, .bool b => (match a, b with | true, true => true | false, false => true | _, _ => false)
 | .int k m, .int l n => bc (rq k l) (aes m n) false
 | .str l n, .str l' n' => sEq l n l' n'
 | .nilPtr, .nilPtr => true
 | .ptr b o, .ptr b' o' => bc (K.beq b b') (Nat.beq o o') false
 | .nilSlice, .nilSlice => true
 | .slice b o len cap none, .slice b' o' len' cap' none => bc (K.beq b b') (bc (Nat.beq o o') (bc (Nat.beq len len') (Nat.beq cap cap') false) false) false
 | .slice b o len cap (some e), .slice b' o' len' cap' (some e') => bc (K.beq b b') (bc (Nat.beq o o') (bc (Nat.beq len len') (bc (Nat.beq cap cap') (Nat.beq e e') false) false) false) false
 | .nilMap, .nilMap => true
 | .map b, .map b' => K.beq b b'
 | .nilFunc, .nilFunc => true
 | .nilIface, .nilIface => true
 | .wse b, .wse b' => K.beq b b'
 | .sym k e A, .sym k' e' A' => bc (rq k k') (bc (fw e e') (py A A') false) false
 | .sx c e A, .sx c' e' A' => bc (Nat.beq c c') (bc (fw e e') (api A A') false) false
 | .gv x, .gv y => ayd x y
 | .wsl b k d n, .wsl b' k' d' n' => bc (K.beq b b') (bc (K.beq k k') (bc (Nat.beq d d') (Nat.beq n n') false) false) false
 | .wptr b k i, .wptr b' k' i' => bc (K.beq b b') (bc (K.beq k k') (Nat.beq i i') false) false
 | .esl, .esl => true
 | .top, .top => true
 | _, _ => false
def abo (f : AV → AV → Bool) : List AV → List AV → Bool
 | [], [] => true
 | a :: l, b :: m => bc (f a b) (abo f l m) false
 | _, _ => false
def bhk : Fn → Fn → Bool
 | .func f, .func g => Nat.beq f g
 | .yield f, .yield g => Nat.beq f g
 | _, _ => false
def alz : Nat → AV → AV → Bool
 | 0, _, _ => false
 | n + 1, a, b => match a, b with
   | .agg l, .agg m => abo (alz n) l m
   | .tuple l, .tuple m => abo (alz n) l m
   | .iface t x, .iface t' y => bc (Nat.beq t t') (alz n x y) false
   | .func f x y, .func g x' y' => bc (bhk f g) (bc (abo (alz n) x x') (abo (alz n) y y') false) false
   | a, b => a25 a b
def bkz (a b : AV) : Bool := alz 8 a b
inductive LE where
 | mk (g : Nat) (cells : List AV)
abbrev ctA : List AV := [.int .u8 128, .int .u8 191, .int .u8 160, .int .u8 191, .int .u8 128, .int .u8 159, .int .u8 144, .int .u8 191, .int .u8 128, .int .u8 143, .int .u8 0, .int .u8 0, .int .u8 0, .int .u8 0, .int .u8 0, .int .u8 0, .int .u8 0, .int .u8 0, .int .u8 0, .int .u8 0, .int .u8 0, .int .u8 0, .int .u8 0, .int .u8 0, .int .u8 0, .int .u8 0, .int .u8 0, .int .u8 0, .int .u8 0, .int .u8 0, .int .u8 0, .int .u8 0]
abbrev ctB : List AV := [.int .u8 240, .int .u8 240, .int .u8 240, .int .u8 240, .int .u8 240, .int .u8 240, .int .u8 240, .int .u8 240, .int .u8 240, .int .u8 240, .int .u8 240, .int .u8 240, .int .u8 240, .int .u8 240, .int .u8 240, .int .u8 240, .int .u8 240, .int .u8 240, .int .u8 240, .int .u8 240, .int .u8 240, .int .u8 240, .int .u8 240, .int .u8 240, .int .u8 240, .int .u8 240, .int .u8 240, .int .u8 240, .int .u8 240, .int .u8 240, .int .u8 240, .int .u8 240, .int .u8 240, .int .u8 240, .int .u8 240, .int .u8 240, .int .u8 240, .int .u8 240, .int .u8 240, .int .u8 240, .int .u8 240, .int .u8 240, .int .u8 240, .int .u8 240, .int .u8 240, .int .u8 240, .int .u8 240, .int .u8 240, .int .u8 240, .int .u8 240, .int .u8 240, .int .u8 240, .int .u8 240, .int .u8 240, .int .u8 240, .int .u8 240, .int .u8 240, .int .u8 240, .int .u8 240, .int .u8 240, .int .u8 240, .int .u8 240, .int .u8 240, .int .u8 240, .int .u8 240, .int .u8 240, .int .u8 240, .int .u8 240, .int .u8 240, .int .u8 240, .int .u8 240, .int .u8 240, .int .u8 240, .int .u8 240, .int .u8 240, .int .u8 240, .int .u8 240, .int .u8 240, .int .u8 240, .int .u8 240, .int .u8 240, .int .u8 240, .int .u8 240, .int .u8 240, .int .u8 240, .int .u8 240, .int .u8 240, .int .u8 240, .int .u8 240, .int .u8 240, .int .u8 240, .int .u8 240, .int .u8 240, .int .u8 240, .int .u8 240, .int .u8 240, .int .u8 240, .int .u8 240, .int .u8 240, .int .u8 240, .int .u8 240, .int .u8 240, .int .u8 240, .int .u8 240, .int .u8 240, .int .u8 240, .int .u8 240, .int .u8 240, .int .u8 240, .int .u8 240, .int .u8 240, .int .u8 240, .int .u8 240, .int .u8 240, .int .u8 240, .int .u8 240, .int .u8 240, .int .u8 240, .int .u8 240, .int .u8 240, .int .u8 240, .int .u8 240, .int .u8 240, .int .u8 240, .int .u8 240, .int .u8 240, .int .u8 240, .int .u8 240, .int .u8 241, .int .u8 241, .int .u8 241, .int .u8 241, .int .u8 241, .int .u8 241, .int .u8 241, .int .u8 241, .int .u8 241, .int .u8 241, .int .u8 241, .int .u8 241, .int .u8 241, .int .u8 241, .int .u8 241, .int .u8 241, .int .u8 241, .int .u8 241, .int .u8 241, .int .u8 241, .int .u8 241, .int .u8 241, .int .u8 241, .int .u8 241, .int .u8 241, .int .u8 241, .int .u8 241, .int .u8 241, .int .u8 241, .int .u8 241, .int .u8 241, .int .u8 241, .int .u8 241, .int .u8 241, .int .u8 241, .int .u8 241, .int .u8 241, .int .u8 241, .int .u8 241, .int .u8 241, .int .u8 241, .int .u8 241, .int .u8 241, .int .u8 241, .int .u8 241, .int .u8 241, .int .u8 241, .int .u8 241, .int .u8 241, .int .u8 241, .int .u8 241, .int .u8 241, .int .u8 241, .int .u8 241, .int .u8 241, .int .u8 241, .int .u8 241, .int .u8 241, .int .u8 241, .int .u8 241, .int .u8 241, .int .u8 241, .int .u8 241, .int .u8 241, .int .u8 241, .int .u8 241, .int .u8 2, .int .u8 2, .int .u8 2, .int .u8 2, .int .u8 2, .int .u8 2, .int .u8 2, .int .u8 2, .int .u8 2, .int .u8 2, .int .u8 2, .int .u8 2, .int .u8 2, .int .u8 2, .int .u8 2, .int .u8 2, .int .u8 2, .int .u8 2, .int .u8 2, .int .u8 2, .int .u8 2, .int .u8 2, .int .u8 2, .int .u8 2, .int .u8 2, .int .u8 2, .int .u8 2, .int .u8 2, .int .u8 2, .int .u8 2, .int .u8 19, .int .u8 3, .int .u8 3, .int .u8 3, .int .u8 3, .int .u8 3, .int .u8 3, .int .u8 3, .int .u8 3, .int .u8 3, .int .u8 3, .int .u8 3, .int .u8 3, .int .u8 35, .int .u8 3, .int .u8 3, .int .u8 52, .int .u8 4, .int .u8 4, .int .u8 4, .int .u8 68, .int .u8 241, .int .u8 241, .int .u8 241, .int .u8 241, .int .u8 241, .int .u8 241, .int .u8 241, .int .u8 241, .int .u8 241, .int .u8 241, .int .u8 241]
def laidL : List LE := [.mk 1 ctA, .mk 0 ctB, .mk 3 [.int .u64 1, .int .u64 10, .int .u64 100, .int .u64 1000, .int .u64 10000, .int .u64 100000, .int .u64 1000000, .int .u64 10000000, .int .u64 100000000, .int .u64 1000000000, .int .u64 10000000000, .int .u64 100000000000, .int .u64 1000000000000, .int .u64 10000000000000, .int .u64 100000000000000, .int .u64 1000000000000000, .int .u64 10000000000000000, .int .u64 100000000000000000, .int .u64 1000000000000000000, .int .u64 10000000000000000000]]
def xr : List LE → W → Bool
 | [], _ => true
 | .mk g cs :: l, w => (match cy (K.of g) w with
   | .ro t _ _ => bc (Nat.beq t (Nat.succ g)) (xr l w) false
   | _ => false)
def km : List LE → H4
 | [] => ajm
 | .mk g cs :: l => ce (K.of g) (.ro (Nat.succ g) (bv cs) (m9 cs 0 (jh (bv cs)))) (km l)
def ac4 : List LE → Bool
 | [] => true
 | .mk g cs :: l => bc (Nat.ble g 255 && atc cs && Nat.ble (bv cs) 65536) (ac4 l) false
def wS : W := .mk (km laidL) (K.of 256)
def bo6 (o : Option CR) : Ih → FuncId → List AV → W → CR := Option.rec (motive := fun _ => Ih → FuncId → List AV → W → CR) aof (fun r _ _ _ _ => r) o
def enter (ih : Ih) (f : FuncId) (vs : List AV) (w : W) : CR := bo6 (ih.hook f vs w) ih f vs w
def aa1 (nt : Nat) : List Nat → List AV → F → F
 | t :: ts, v :: vs, τ => aa1 nt ts vs (ams nt t v τ)
 | _, _, τ => τ
def aiz (b : K) (jump : Option Code) (st : LoopState) (v : Bool) (w : W) : CR := match cy b w with
 | .loop _ _ fn nt τ ps x y kd => .ret (.bool v) (wset b (.loop st jump fn nt τ ps x y kd) w)
 | _ => .no 245 0
def alw (b : K) (fn : Nat) (r : R) : CR := match r with
 | .n (.mk _ [] _ w) => aiz b none .ready true w
 | .x id (.mk _ [] _ w) => aiz b (some (.exit id)) .done false w
 | .r (.mk _ [] _ w) => aiz b (some .ret) .done false w
 | .p ch (.mk _ [] _ w) => bc (al6 fn).isSome (.pan ch w) (.no 244 fn)
 | .no c f => .no c f
 | _ => .no 244 fn
def ar3 (ih : Ih) (b : K) (fn nt : Nat) (y : Code) (r : R) : CR := match r with
 | .n (.mk τ [] um w) => (match cy b w with
   | .loop .ready pend fn' nt' τ' ps x y' kd => alw b fn (ih y (.mk fn nt false (some b)) (.mk τ [] um (wset b (.loop .busy pend fn' nt' τ' ps x y' kd) w)))
   | _ => .no 242 fn)
 | .no c f => .no c f
 | _ => .no 243 fn
def yy (ih : Ih) (b : K) (vs : List AV) (w : W) : CR := match cy b w with
 | .loop _ _ fn nt τ ps x y _ => bc (Nat.beq (bv ps) (bv vs)) (ar3 ih b fn nt y (ih x (.mk fn nt false (some b)) (.mk (aa1 nt ps vs τ) [] .none w))) (.no 240 fn)
 | _ => .no 241 0
def l8 (g : Nat × Bool) (all : List Oper) (τ : F) : Option Bool :=
 match (nth all g.1).bind (·.dst) with
 | some d => (match ii d τ with | .bool b => some (b == g.2) | .tuple _ => some false | _ => none)
 | none => none
def bqh (v : AV) (w : W) (dst : Option Nat) (IH : Oh) (ih : Ih) (all : List Oper) (C : Ctx) (τ : F) (ds : List AD) (um : UM) : R :=
 IH ih all C (.mk (rp C.nt dst v τ) ds um w)
def crK (r : CR) : Option Nat → Oh → Ih → List Oper → Ctx → F → List AD → UM → R :=
 CR.rec (motive := fun _ => Option Nat → Oh → Ih → List Oper → Ctx → F → List AD → UM → R)
  bqh
  (fun ch w _ _ _ _ _ τ ds um => .p ch (.mk τ ds um w))
  (fun c f _ _ _ _ _ _ _ _ => .no c f) r
def bqf (f : FuncId) (vs : List AV) (w : W) (dst : Option Nat) (IH : Oh) (ih : Ih) (all : List Oper) (C : Ctx) (τ : F) (ds : List AD) (um : UM) : R :=
 crK (enter ih f vs w) dst IH ih all C τ ds um
def bta (b : K) (vs : List AV) (w : W) (dst : Option Nat) (IH : Oh) (ih : Ih) (all : List Oper) (C : Ctx) (τ : F) (ds : List AD) (um : UM) : R :=
 crK (yy ih b vs w) dst IH ih all C τ ds um
def bs9 (v : AV) (w : W) (dst : Option Nat) (IH : Oh) (ih : Ih) (all : List Oper) (C : Ctx) (τ : F) (ds : List AD) (um : UM) : R := .p [.mk v false] (.mk τ ds um w)
def bs8 (d : AD) (w : W) (dst : Option Nat) (IH : Oh) (ih : Ih) (all : List Oper) (C : Ctx) (τ : F) (ds : List AD) (um : UM) : R :=
 match C.round with
 | none => IH ih all C (.mk (rp C.nt dst ip τ) (d :: ds) um w)
 | some _ => .no 211 C.fn
def aus (w : W) (dst : Option Nat) (IH : Oh) (ih : Ih) (all : List Oper) (C : Ctx) (τ : F) (ds : List AD) (um : UM) : R :=
 match C.round, C.dfr, um with
 | some _, _, _ => .no 212 C.fn
 | none, true, .pan (.mk v false :: older) => IH ih all C (.mk (rp C.nt dst v τ) ds (.pan (.mk v true :: older)) w)
 | none, _, um => IH ih all C (.mk (rp C.nt dst .nilIface τ) ds um w)
def orK (r : OR) : Option Nat → Oh → Ih → List Oper → Ctx → F → List AD → UM → R :=
 OR.rec (motive := fun _ => Option Nat → Oh → Ih → List Oper → Ctx → F → List AD → UM → R)
  bqh bqf bta bs9 bs8 aus (fun c _ _ _ _ C _ _ _ => .no c C.fn) r
def oGo (dst : Option Nat) (op : Op) (IH : Oh) (ih : Ih) (all : List Oper) (C : Ctx) (S : FSt) : R :=
 FSt.rec (motive := fun _ => Option Nat → Op → Oh → Ih → List Oper → Ctx → R)
  (fun τ ds um w dst op IH ih all C => orK (gOp op τ w) dst IH ih all C τ ds um) S dst op IH ih all C
def bkj (dst : Option Nat) (IH : Oh) (ih : Ih) (all : List Oper) (C : Ctx) (S : FSt) : R :=
 FSt.rec (motive := fun _ => Option Nat → Oh → Ih → List Oper → Ctx → R)
  (fun τ ds um w dst IH ih all C => IH ih all C (.mk (rp C.nt dst ip τ) ds um w)) S dst IH ih all C
def bnf (g : Nat × Bool) (dst : Option Nat) (op : Op) (IH : Oh) (ih : Ih) (all : List Oper) (C : Ctx) (S : FSt) : R :=
 match S with
 | .mk τ _ _ _ => match l8 g all τ with
   | some true => oGo dst op IH ih all C S
   | some false => bkj dst IH ih all C S
   | none => .no 213 C.fn
def apj (g : Option (Nat × Bool)) : Option Nat → Op → Oh → Ih → List Oper → Ctx → FSt → R :=
 Option.rec (motive := fun _ => Option Nat → Op → Oh → Ih → List Oper → Ctx → FSt → R) oGo bnf g
def bqg (o : Oper) : Oh → Ih → List Oper → Ctx → FSt → R :=
 Oper.rec (motive := fun _ => Oh → Ih → List Oper → Ctx → FSt → R)
  (fun dst op _ _ _ g IH ih all C S => apj g dst op IH ih all C S) o
def uj (l : List Oper) : Oh :=
 List.rec (motive := fun _ => Oh) (fun _ _ _ S => .n S) (fun o _ IH ih all C S => bqg o IH ih all C S) l
def tb (m i : Nat) : Bool := Nat.beq (Nat.land (Nat.shiftRight m i) 1) 1
def alc : Nat := 115792089237316195423570985008687907853269984665640564039457584007913129639936
def fld (M t : Nat) : Nat := Nat.mod (Nat.shiftRight M (Nat.mul t 256)) alc
def atb (M t m : Nat) : Nat := Nat.lor M (Nat.shiftLeft (Nat.mod m alc) (Nat.mul t 256))
def bft (x y : Nat) : Bool := Nat.beq (Nat.land x y) x
def a0o : List Edge → Nat → Nat → Nat
 | [], _, s => s
 | e :: es, B, s => a0o es B (bc (Region.binds .any e) (Nat.lor (Nat.lor s (Nat.shiftLeft 1 e.on)) (fld B e.on)) s)
def blq : List Oper → Nat → Nat → Nat
 | [], _, B => B
 | o :: os, j, B => blq os (Nat.succ j) (atb B j (a0o o.after.toList B 0))
def ah9 (ops : Array Oper) : Nat := blq ops.toList 0 0
def dh (ops : Array Oper) (j : Nat) : Nat := fld (ah9 ops) j
def db (ops : Array Oper) (i j : Nat) : Bool := tb (dh ops j) i
inductive CL where
 | pu
 | rd
 | fl
 | ef
 | mu
def aav : Op → CL
 | .move _ => .pu
 | .assign _ => .pu
 | .fieldAddr .. => .pu
 | .extract .. => .pu
 | .nilCheck _ => .pu
 | .load .. => .rd
 | .lookup .. => .rd
 | .convert .. => .rd
 | .binOp .. => .rd
 | .unOp .. => .rd
 | .index .. => .rd
 | .indexAddr .. => .rd
 | .field .. => .rd
 | .slice .. => .rd
 | .typeAssert .. => .rd
 | .pick .. => .rd
 | .build .. => .rd
 | .makeInterface .. => .rd
 | .makeFunc .. => .rd
 | .call { callee := .builtin .len, .. } => .rd
 | .alloc _ => .fl
 | .box .. => .fl
 | .buildSlice .. => .fl
 | .makeMap .. => .fl
 | _ => .ef
inductive PM where
 | none
 | mk (i d : Nat)
def boa (t : Nat) (d : Nat) : CL := bc (Nat.beq t d) .mu .ef
def bgt (d : Nat) : Op → CL
 | .insert _ (.tmp t) _ _ => boa t d
 | op => aav op
def cls (pm : PM) (op : Op) : CL := PM.rec (motive := fun _ => Op → CL) aav (fun _ d => bgt d) pm op
def isP (pm : PM) (j : Nat) : Bool := match pm with
 | .none => false
 | .mk i _ => Nat.beq i j
def noP : PM → Bool
 | .none => true
 | .mk _ _ => false
def bmz : Op → Bool
 | .makeMap _ _ => true
 | _ => false
def a7r : List Oper → Nat → PM
 | [], _ => .none
 | o :: l, i => bc (bmz o.op) (match o.dst with
   | some d => .mk i d
   | none => a7r l (Nat.succ i)) (a7r l (Nat.succ i))
inductive PV where
 | none
 | mk (k : K) (es : List (AV × AV))
def amd (a b : AV) : Bool := match qe a b, qe b a with
 | some false, some false => true
 | _, _ => false
def ab4 (a : AV) : List (AV × AV) → Bool
 | [] => true
 | e :: l => bc (amd a e.1) (ab4 a l) false
def auw : List (AV × AV) → Bool
 | [] => true
 | e :: l => bc (ab4 e.1 l) (auw l) false
def be9 : PV → Bool
 | .none => true
 | .mk _ es => auw es
def a02 (k : K) : AV → Bool
 | .map b => K.beq b k
 | _ => false
def bab (p : PV) (w : W) : W := match p with
 | .none => w
 | .mk k es => wset k (.umap es) w
def bbc : CL → Bool
 | .ef => true
 | _ => false
def bpf : CL → Bool
 | .fl => true
 | _ => false
def a8o (p : Nat → Bool) : Nat → Bool
 | 0 => true
 | n + 1 => bc (p n) (a8o p n) false
def qf (pm : PM) : List Oper → Nat
 | [] => 0
 | o :: l => bc (bpf (cls pm o.op)) (qf pm l + 1) (qf pm l)
def ae2 (ops : Array Oper) : Nat := bv ops.toList
def abh (pm : PM) : List Oper → Nat → List Nat
 | [], _ => []
 | o :: l, j => bc (bbc (cls pm o.op)) (j :: abh pm l (Nat.succ j)) (abh pm l (Nat.succ j))
def bl6 (pm : PM) (ops : Array Oper) : List Nat := abh pm ops.toList 0
def ar8 (p : Nat → Bool) : List Nat → Bool
 | [] => true
 | x :: l => bc (p x) (ar8 p l) false
def agc (pm : PM) (ops : Array Oper) (j e : Nat) : Bool :=
 ar8 (fun x => bc (bc (db ops x j) (Nat.blt x e) true) (bc (Nat.blt x e) (al0 (db ops j x)) true) false) (bl6 pm ops)
def wy (pm : PM) (ops : Array Oper) (j : Nat) : Bool :=
 al0 (ar8 (fun x => bc (bc (Nat.blt x j) (db ops x j) true) (bc (Nat.blt j x) (db ops j x) true) false) (bl6 pm ops))
def afe : List Operand → List Nat
 | [] => []
 | .tmp t :: l => t :: afe l
 | _ :: l => afe l
def px (all : List Oper) (o : Oper) : List Nat :=
 afe o.op.operands.toList ++ (o.dst.toList ++ (match o.guard with
  | some g => ((nth all g.1).bind (·.dst)).toList
  | none => []))
def aci (j : Nat) : List Edge → Bool
 | [] => true
 | e :: l => bc (bc (Region.binds .any e) (Nat.blt e.on j) true) (aci j l) false
def azn (Wm b : Nat) : List Nat → Bool
 | [] => true
 | t :: l => bc (bft (fld Wm t) b) (azn Wm b l) false
def boj (Rm b : Nat) : Option Nat → Bool
 | none => true
 | some d => bft (fld Rm d) b
def bn0 (Wm j : Nat) : Option Nat → Nat
 | none => Wm
 | some d => atb Wm d (Nat.shiftLeft 1 j)
def blm (j : Nat) : List Nat → Nat → Nat
 | [], Rm => Rm
 | t :: l, Rm => blm j l (atb Rm t (Nat.shiftLeft 1 j))
def a0l (pm : PM) (all : List Oper) (B : Nat) : List Oper → Nat → Nat → Nat → Nat → Bool
 | [], _, _, _, _ => true
 | o :: os, j, Wm, Rm, Em =>
   bc (aci j o.after.toList) (bc (azn Wm (fld B j) (px all o)) (bc (boj Rm (fld B j) o.dst) (bc (bc (bbc (cls pm o.op)) (bft Em (fld B j)) true)
    (a0l pm all B os (Nat.succ j) (bn0 Wm j o.dst) (blm j (px all o) Rm) (bc (bbc (cls pm o.op)) (Nat.lor Em (Nat.shiftLeft 1 j)) Em)) false) false) false) false
def abg (pm : PM) (ops : Array Oper) : Bool := bc (Nat.ble (ae2 ops) 256) (a0l pm ops.toList (ah9 ops) ops.toList 0 0 0 0) false
def dummy : Oper := { dst := none, op := .move (.func 0), type := 0, pos := "", after := #[], guard := none }
def mt (B p : Nat) : List Oper → Nat → List Oper
 | [], _ => []
 | o :: l, j => bc (tb (fld B j) p) dummy o :: mt B p l (Nat.succ j)
def e9 (ops : Array Oper) (p : Nat) : Array Oper := (mt (ah9 ops) p ops.toList 0).toArray
def ajl (ops : Array Oper) (p : Nat) (o : Oper) : Bool := match o.guard with
 | some g => al0 (db ops p g.1)
 | none => true
def bkl (ops opsT : Array Oper) (p j : Nat) : Bool := bc (db ops p j) true (bc (Nat.beq (dh ops j) (dh opsT j)) (bc (bc (wy .none opsT j) (wy .none ops j) true) (match nth ops.toList j with
 | some o => ajl ops p o
 | none => true) false) false)
def beg (ops opsT : Array Oper) (p : Nat) : Bool := bc (abg .none opsT) (bc (a8o (fun j => al0 (db ops p j)) (Nat.succ p)) (a8o (bkl ops opsT p) (ae2 ops)) false) false
def abf (nt : Nat) : List Oper → F → F
 | [], τ => τ
 | o :: l, τ => abf nt l (rp nt o.dst .top τ)
inductive PF where
 | mk (i : Nat) (k : K) (o : AObj)
inductive RC where
 | mk (i : Nat) (op : Op) (τ : F) (v : AV)
inductive DS where
 | mk (τ : F) (w : W) (fk : K) (pend : List PF) (hist : List (Nat × W)) (recs : List RC) (pv : PV)
inductive DX where
 | ok (s : DS)
 | pan (ch : List PE) (w : W) (p : Nat) (s : DS)
 | no (c f : Nat)
def dz (m : Nat) : List PF → W → W
 | [], w => w
 | .mk i k o :: l, w => bc (tb m i) (wset k o (dz m l w)) (dz m l w)
def xj (m : Nat) : List PF → List PF
 | [] => []
 | .mk i k o :: l => bc (tb m i) (xj m l) (.mk i k o :: xj m l)
def aiq : List PF → W → W
 | [], w => w
 | .mk _ k o :: l, w => wset k o (aiq l w)
def hOf : W → H4 | .mk h _ => h
def baa (o : Oper) (nt fn : Nat) : DS → DX
 | .mk τ w fk pend hist recs pv => match gD o.op τ w with
   | .val v _ => .ok (.mk (rp nt o.dst v τ) w fk pend hist recs pv)
   | .no c => .no c fn
   | _ => .no 230 fn
def bac (pm : PM) (ops : Array Oper) (i : Nat) (o : Oper) (nt fn : Nat) : DS → DX
 | .mk τ w fk pend hist recs pv => match gD o.op τ w with
   | .val v _ => .ok (.mk (rp nt o.dst v τ) w fk pend hist (bc (wy pm ops i) (.mk i o.op τ v :: recs) recs) pv)
   | .no c => .no c fn
   | _ => .no 231 fn
def bbd : AObj → Bool
 | .map [] => true
 | _ => false
def ax3 (pm : PM) (i : Nat) (o : Oper) (nt fn : Nat) : DS → DX
 | .mk τ w fk pend hist recs pv => match gD o.op τ (.mk (hOf w) fk) with
   | .val v (.mk h' _) => bc (isP pm i)
      (bc (bbd (aa fk h')) (.ok (.mk (rp nt o.dst v τ) w fk.succ pend hist recs (.mk fk []))) (.no 239 fn))
      (.ok (.mk (rp nt o.dst v τ) w fk.succ (.mk i fk (aa fk h') :: pend) hist recs pv))
   | .no c => .no c fn
   | _ => .no 232 fn
def dMu (o : Oper) (nt fn : Nat) : DS → DX
 | .mk τ w fk pend hist recs (.mk k es) => (match o.op, o.guard with
   | .insert t m x y, none => bc (nq t && amy t (evX x τ) && a02 k (evX m τ))
      (.ok (.mk (rp nt o.dst ip τ) w fk pend hist recs (.mk k (es ++ [(evX x τ, evX y τ)])))) (.no 229 fn)
   | _, _ => .no 228 fn)
 | _ => .no 227 fn
def bhd (pm : PM) (ih : Ih) (ops : Array Oper) (i : Nat) (o : Oper) (nt fn : Nat) : DS → DX
 | .mk τ w fk pend hist recs pv => match gD o.op τ (dz (dh ops i) pend w) with
   | .val v w' => .ok (.mk (rp nt o.dst v τ) w' fk (xj (dh ops i) pend) ((i, w) :: hist) recs pv)
   | .call f vs w' => (match enter ih f vs w' with
     | .ret v w'' => .ok (.mk (rp nt o.dst v τ) w'' fk (xj (dh ops i) pend) ((i, w) :: hist) recs pv)
     | .no c f => .no c f
     | .pan ch w'' => bc (noP pm) (.pan ch w'' i (.mk (rp nt o.dst .top τ) (dz (dh ops i) pend w) fk (xj (dh ops i) pend) ((i, w) :: hist) recs pv)) (.no 233 fn))
   | .no c => .no c fn
   | _ => .no 234 fn
def dGo (pm : PM) (ih : Ih) (ops : Array Oper) (i : Nat) (o : Oper) (nt fn : Nat) (s : DS) : DX := match cls pm o.op with
 | .pu => baa o nt fn s
 | .rd => bac pm ops i o nt fn s
 | .fl => ax3 pm i o nt fn s
 | .ef => bhd pm ih ops i o nt fn s
 | .mu => dMu o nt fn s
def baf (pm : PM) (ops : Array Oper) (i : Nat) (o : Oper) (nt : Nat) : DS → DX
 | .mk τ w fk pend hist recs pv => match cls pm o.op with
   | .ef => .ok (.mk (rp nt o.dst ip τ) (dz (dh ops i) pend w) fk (xj (dh ops i) pend) ((i, w) :: hist) recs pv)
   | .mu => .no 226 0
   | _ => .ok (.mk (rp nt o.dst ip τ) w fk pend hist recs pv)
def DS.τ : DS → F | .mk τ .. => τ
def DS.w : DS → W | .mk _ w .. => w
def DS.fk : DS → K | .mk _ _ fk .. => fk
def DS.pend : DS → List PF | .mk _ _ _ p .. => p
def DS.hist : DS → List (Nat × W) | .mk _ _ _ _ h .. => h
def DS.recs : DS → List RC | .mk _ _ _ _ _ r _ => r
def DS.pv : DS → PV | .mk _ _ _ _ _ _ p => p
def sv (pm : PM) (ih : Ih) (ops : Array Oper) (i : Nat) (o : Oper) (nt fn : Nat) (s : DS) : DX := match o.guard with
 | none => dGo pm ih ops i o nt fn s
 | some g => match l8 g ops.toList s.τ with
   | some true => dGo pm ih ops i o nt fn s
   | some false => baf pm ops i o nt s
   | none => .no 235 fn
def a99 (r : DX) (k : DS → DX) : DX := match r with
 | .ok s => k s
 | .pan ch w p s => .pan ch w p s
 | .no c f => .no c f
def ais (pm : PM) (ih : Ih) (ops : Array Oper) (nt fn : Nat) : List Oper → Nat → DS → DX
 | [], _, s => .ok s
 | o :: l, i, s => a99 (sv pm ih ops i o nt fn s) (ais pm ih ops nt fn l (i + 1))
def bfe (op : Op) (τ : F) (v : AV) (w : W) : Bool := match gD op τ w with
 | .val v' _ => bkz v v'
 | _ => false
def bae (pm : PM) (ops : Array Oper) : RC → List (Nat × W) → Bool
 | _, [] => true
 | .mk i op τ v, (e, w) :: l => bc (bc (agc pm ops i e) (bfe op τ v w) true) (bae pm ops (.mk i op τ v) l) false
def aaz (pm : PM) (ops : Array Oper) : List RC → List (Nat × W) → Bool
 | [], _ => true
 | r :: l, h => bc (bae pm ops r h) (aaz pm ops l h) false
def as1 (ops opsT : Array Oper) (fn nt : Nat) (τ0 : F) (ds : List AD) (um : UM) (ch : List PE) (w2 : W) : DX → R
 | .ok (.mk _ w _ _ hist recs _) => bc (aaz .none opsT recs ((ae2 ops, w) :: hist)) (.p ch (.mk (abf nt ops.toList τ0) ds um w2)) (.no 236 fn)
 | .pan _ _ _ _ => .no 225 fn
 | .no c f => .no c f
def a0k (ih : Ih) (ops opsT : Array Oper) (fn nt : Nat) (τ0 : F) (ds : List AD) (um : UM) (ch : List PE) (w2 : W) (p : Nat) (s : DS) : R :=
 bc (beg ops opsT p) (as1 ops opsT fn nt τ0 ds um ch w2 (ais .none ih opsT nt fn (opsT.toList.drop (Nat.succ p)) (Nat.succ p) s)) (.no 233 fn)
def bl3 (pm : PM) (ih : Ih) (ops : Array Oper) (fn nt : Nat) (τ0 : F) (ds : List AD) (um : UM) : DX → R
 | .ok (.mk τ w _ pend hist recs pv) => bc (aaz pm ops recs ((ae2 ops, w) :: hist) && be9 pv) (.n (.mk τ ds um (bab pv (aiq pend w)))) (.no 236 fn)
 | .pan ch w2 p s => a0k ih ops (e9 ops p) fn nt τ0 ds um ch w2 p s
 | .no c f => .no c f
def avd : Nat → K → Option K
 | 0, k => some k
 | n + 1, k => bc k.isMax none (avd n k.succ)
def aiu (pm : PM) (ih : Ih) (ops : Array Oper) (nt fn : Nat) (τ : F) (h : H4) (nx : K) (ds : List AD) (um : UM) : Option K → R
 | some nx' => bl3 pm ih ops fn nt τ ds um (ais pm ih ops nt fn ops.toList 0 (.mk τ (.mk h nx') nx [] [] [] .none))
 | none => .no 237 fn
def aid (pm : PM) (ops : Array Oper) (ih : Ih) (C : Ctx) : FSt → R
 | .mk τ ds um (.mk h nx) => bc (abg pm ops) (aiu pm ih ops C.nt C.fn τ h nx ds um (avd (qf pm ops.toList) nx)) (.no 238 C.fn)
def a0e (_ : Nat) (ops : Array Oper) (ih : Ih) (C : Ctx) (S : FSt) : R := bc (abg .none ops) (aid .none ops ih C S) (aid (a7r ops.toList 0) ops ih C S)
def blw (_ : Nat) (ops : Array Oper) (ih : Ih) (C : Ctx) (S : FSt) : R := uj ops.toList ih ops.toList C S
def bgm (id : Nat) (ops : Array Oper) (draw : Bool) : Ih → Ctx → FSt → R := Bool.rec (motive := fun _ => Nat → Array Oper → Ih → Ctx → FSt → R) blw a0e draw id ops
def akz (r : R) : Ih → Code → Ctx → R := R.rec (motive := fun _ => Ih → Code → Ctx → R)
 (fun S ih b C => ih b C S) (fun id S _ _ _ => .x id S) (fun S _ _ _ => .r S) (fun ch S _ _ _ => .p ch S) (fun c f _ _ _ => .no c f) r
abbrev Rh := Ih → Ctx → FSt → R
def bsg (a b : Code) (_ _ : Rh) (ih : Ih) (C : Ctx) (S : FSt) : R := akz (ih a C S) ih b C
def a94 (v : AV) (x y : Code) (ih : Ih) (C : Ctx) (S : FSt) : R := match v with
 | .bool b => ih (bc b x y) C S
 | _ => .no 214 C.fn
def FSt.τ (S : FSt) : F := FSt.rec (motive := fun _ => F) (fun τ _ _ _ => τ) S
def bn6 (c : Operand) (x y : Code) (_ _ : Rh) (ih : Ih) (C : Ctx) (S : FSt) : R := a94 (evX c S.τ) x y ih C S
def axw (r : R) : Nat → R := R.rec (motive := fun _ => Nat → R)
 (fun S _ => .n S) (fun id' S id => bc (Nat.beq id' id) (.n S) (.x id' S)) (fun S _ => .r S) (fun ch S _ => .p ch S) (fun c f _ => .no c f) r
def blv (id : Nat) (b : Code) (_ : Rh) (ih : Ih) (C : Ctx) (S : FSt) : R := axw (ih b C S) id
def xg (b : Code) (ih : Ih) (C : Ctx) (S : FSt) : R := akz (ih b C S) ih (.loop b) C
def a1n (o : Option R) : Code → Ih → Ctx → FSt → R := Option.rec (motive := fun _ => Code → Ih → Ctx → FSt → R) xg (fun r _ _ _ _ => r) o
def bn7 (b : Code) (_ : Rh) (ih : Ih) (C : Ctx) (S : FSt) : R := a1n (ih.lp C b S) b ih C S
def bbb : LoopState → Bool
 | .busy => true
 | _ => false
def bfb (τ : F) (ds : List AD) (um : UM) (kl : K) (r : CR) : R := match r with
 | .ret _ w => (match cy kl w with
   | .loop st pend fn nt τ' ps x y kd => bc (bbb st) (.no 248 fn) (match pend with
     | none => .n (.mk τ ds um (wset kl (.loop .exhausted pend fn nt τ' ps x y kd) w))
     | some (.exit id) => .x id (.mk τ ds um (wset kl (.loop .exhausted pend fn nt τ' ps x y kd) w))
     | some .ret => .r (.mk τ ds um (wset kl (.loop .exhausted pend fn nt τ' ps x y kd) w))
     | _ => .no 249 fn)
   | _ => .no 250 0)
 | .pan ch w => .p ch (.mk τ ds um w)
 | .no c f => .no c f
def akq (ih : Ih) (fn : Nat) (τ : F) (ds : List AD) (um : UM) (kl : K) (r : OR) : R := match r with
 | .call g vs w => bfb τ ds um kl (enter ih g vs w)
 | _ => .no 247 fn
def aoa (f : Operand) (ps : Array Tmp) (x y : Code) (ih : Ih) (C : Ctx) (S : FSt) : R := match S, C.round with
 | .mk τ ds um (.mk h nx), none => bc nx.isMax (.no 246 0) (bc nx.succ.isMax (.no 246 1)
    (akq ih C.fn τ (.coll nx :: ds) um nx.succ (afo (evX f τ) [.func (.yield nx.succ.num) [] []] (.mk (ce nx.succ (.loop .ready none C.fn C.nt τ ps.toList x y nx) (ce nx (.deferred (some [])) h)) nx.succ.succ))))
 | _, _ => .no 246 2
def bld (ih : Ih) (c : Code) : Ctx → FSt → R := Code.rec (motive := fun _ => Rh)
 (fun _ _ S => .n S) bgm bsg bn6 blv bn7 (fun f ps x y _ _ => aoa f ps x y) (fun id _ _ S => .x id S)
 (fun _ _ _ C _ => .no 216 C.fn) (fun _ _ _ S => .n S) (fun _ _ C _ => .no 217 C.fn) (fun _ _ S => .r S) (fun _ _ C _ => .no 218 C.fn) c ih
abbrev ah2 := FuncId → List AV → W → Option CR
abbrev xa := Ctx → Code → FSt → Option R
def bqa (_ : Ctx) (_ : Code) (_ : FSt) : Option R := none
def btk (H : ah2) (L : xa) (n : Nat) : Code → Ctx → FSt → R := Nat.rec (motive := fun _ => Code → Ctx → FSt → R) (fun _ _ _ => .no 219 0) (fun _ r => bld (Ih.mk H r L)) n
def ama (H : ah2) (L : xa) (n : Nat) : Ih := Ih.mk H (btk H L n) L
def run (H : ah2) (n : Nat) : Ih := ama H bqa n
def bnb (_ : FuncId) (_ : List AV) (_ : W) : Option CR := none
inductive HE where
 | mk (f : FuncId) (vs : List AV) (v : AV)
def w0 : W := .mk ajm (K.of 256)
end
end Go.Ev
