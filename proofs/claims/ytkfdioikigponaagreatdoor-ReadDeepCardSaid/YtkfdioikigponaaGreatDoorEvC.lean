import Derived.Test.YtkfdioikigponaaGreatDoorEvFx
set_option linter.all false
namespace Go.Ev
noncomputable section
/- The evaluator: control. -/
inductive PE where
  | mk (v : AV) (rec : Bool)
inductive UM where
  | none
  | ret
  | pan (ch : List PE)
inductive FSt where
  | mk (τ : F) (ds : List AD) (um : UM) (w : W)
inductive Ctx where
  | mk (fn nt : Nat) (dfr : Bool) (round : Option K)
def Ctx.nt (C : Ctx) : Nat := Ctx.rec (motive := fun _ => Nat) (fun _ nt _ _ => nt) C
def Ctx.fn (C : Ctx) : Nat := Ctx.rec (motive := fun _ => Nat) (fun fn _ _ _ => fn) C
def Ctx.dfr (C : Ctx) : Bool := Ctx.rec (motive := fun _ => Bool) (fun _ _ d _ => d) C
def Ctx.round (C : Ctx) : Option K := Ctx.rec (motive := fun _ => Option K) (fun _ _ _ r => r) C
inductive R where
  | n (S : FSt)
  | x (id : Nat) (S : FSt)
  | r (S : FSt)
  | p (ch : List PE) (S : FSt)
  | no (c f : Nat)
inductive CR where
  | ret (v : AV) (w : W)
  | pan (ch : List PE) (w : W)
  | no (c f : Nat)
/-- the run of code, and answers for calls that are known already -/
structure Ih where
  hook : FuncId → List AV → W → Option CR
  run : Code → Ctx → FSt → R
  lp : Ctx → Code → FSt → Option R
instance : CoeFun Ih (fun _ => Code → Ctx → FSt → R) := ⟨Ih.run⟩
abbrev Oh := Ih → List Oper → Ctx → FSt → R

/- leaving a function -/
def resOne (τ : F) (w : W) : ResultVar → Option AV
  | .tmp t => some (fget t τ)
  | .cell a t => match fget a τ with
    | .ptr b o => (match evLoad t (.ptr b o) w with
      | .val v _ => some v
      | _ => none)
    | _ => none
def resAll (τ : F) (w : W) : List ResultVar → Option (List AV)
  | [] => some []
  | r :: rs => (resOne τ w r).bind fun v => (resAll τ w rs).map (v :: ·)
def resV : List AV → AV
  | [v] => v
  | vs => .tuple vs
def results (fn : Func) (τ : F) (w : W) : CR := match resAll τ w fn.results.toList with
  | some vs => .ret (resV vs) w
  | none => .no 200 0
def settle : UM → UM
  | .pan (.mk _ true :: _) => .ret
  | u => u
def raised (u : UM) (ch : List PE) : UM := match u with
  | .pan old => .pan (ch ++ old)
  | _ => .pan ch
inductive DR where
  | ret (u : UM) (w : W)
  | pan (ch : List PE) (u : UM) (w : W)
  | no (c f : Nat)
def bodyOf (f : FuncId) : Option (Func × Code) := match fnOf f with
  | some fn => match fn.body with
    | some c => bc (Nat.ble fn.ntmps 512) (some (fn, c)) none
    | none => none
  | none => none
def start (ih : Ih) (fn : Func) (c : Code) (f : FuncId) (vs : List AV) (dfr : Bool) (u : UM) (w : W) : R :=
  bc (Nat.ble (llen vs) fn.ntmps) (ih c (.mk f fn.ntmps dfr none) (.mk (ffill vs 0 fnone) [] u w)) (.no 201 f)
def leaveD (fn : Func) (r : R) : DR := match r with
  | .n (.mk τ [] u w) | .r (.mk τ [] u w) => (match results fn τ w with | .ret _ _ => .ret u w | _ => .no 202 0)
  | .p ch (.mk _ [] u w) => .pan ch u w
  | .no c f => .no c f
  | _ => .no 203 0
def enterD (ih : Ih) (f : FuncId) (vs : List AV) (u : UM) (w : W) : DR := match bodyOf f with
  | some (fn, c) => leaveD fn (start ih fn c f vs true u w)
  | none => .no 204 f
def unwind (ih : Ih) (fn : Func) (τ : F) : List AD → UM → W → CR
  | [], .ret, w => results fn τ w
  | [], .pan ch, w => .pan ch w
  | [], .none, _ => .no 205 0
  | .call (.func f) cap args :: ds, u, w => (match callFn f (args ++ cap) w with
    | .call f vs w => (match enterD ih f vs u w with
      | .ret u' w' => unwind ih fn τ ds (settle u') w'
      | .pan ch u' w' => unwind ih fn τ ds (raised u' ch) w'
      | .no c f => .no c f)
    | _ => .no 206 0)
  | .coll b :: ds, u, w => (match wget b w with
    | .deferred (some []) => unwind ih fn τ ds u (wset b (.deferred none) w)
    | _ => .no 206 1)
  | _ :: _, _, _ => .no 207 0
def leaveK (ih : Ih) (fn : Func) (r : R) : CR := match r with
  | .n (.mk τ ds _ w) | .r (.mk τ ds _ w) => unwind ih fn τ ds .ret w
  | .p ch (.mk τ ds _ w) => unwind ih fn τ ds (.pan ch) w
  | .no c f => .no c f
  | _ => .no 208 0
def enterB (ih : Ih) (f : FuncId) (vs : List AV) (w : W) (b : Func × Code) : CR := leaveK ih b.1 (start ih b.1 b.2 f vs false .none w)
def enterP (ih : Ih) (f : FuncId) (vs : List AV) (w : W) : CR := match bodyOf f with
  | some b => enterB ih f vs w b
  | none => .no 209 f
/-- a value that leads to no block -/
def free : AV → Bool
  | .bool _ => true
  | .int _ _ => true
  | .str _ _ => true
  | .nilPtr => true
  | .nilSlice => true
  | .nilMap => true
  | .nilIface => true
  | .nilFunc => true
  | _ => false
def frees : List AV → Bool
  | [] => true
  | v :: l => bc (free v) (frees l) false
def saSame : List SA → List SA → Bool
  | [], [] => true
  | .mk lt a b r :: l, .mk lt' a' b' r' :: m => bc (sameB lt lt') (bc (seEq a a') (bc (seEq b b') (bc (sameB r r') (saSame l m) false) false) false) false
  | _, _ => false
def nsSame : List (Nat × Nat) → List (Nat × Nat) → Bool
  | [], [] => true
  | p :: l, q :: m => bc (Nat.beq p.1 q.1) (bc (Nat.beq p.2 q.2) (nsSame l m) false) false
  | _, _ => false
def gvSame : GV → GV → Bool
  | .str g A, .str g' A' => bc (geEq g g') (saSame A A') false
  | .sl b es n A, .sl b' es' n' A' => bc (K.beq b b') (bc (Nat.beq es es') (bc (seEq n n') (saSame A A') false) false) false
  | .ptr b es i o A, .ptr b' es' i' o' A' => bc (K.beq b b') (bc (Nat.beq es es') (bc (seEq i i') (bc (Nat.beq o o') (saSame A A') false) false) false) false
  | .sr b o n A, .sr b' o' n' A' => bc (K.beq b b') (bc (seEq o o') (bc (seEq n n') (saSame A A') false) false) false
  | .pr b o i A, .pr b' o' i' A' => bc (K.beq b b') (bc (seEq o o') (bc (seEq i i') (saSame A A') false) false) false
  | _, _ => false
/-- values that are surely the same -/
def same0 : AV → AV → Bool
  | .bool a, .bool b => (match a, b with | true, true => true | false, false => true | _, _ => false)
  | .int k m, .int l n => bc (kbeq k l) (ieqb m n) false
  | .str l n, .str l' n' => sEq l n l' n'
  | .nilPtr, .nilPtr => true
  | .ptr b o, .ptr b' o' => bc (K.beq b b') (Nat.beq o o') false
  | .nilSlice, .nilSlice => true
  | .slice b o len cap none, .slice b' o' len' cap' none => bc (K.beq b b') (bc (Nat.beq o o') (bc (Nat.beq len len') (Nat.beq cap cap') false) false) false
  | .slice b o len cap (some e), .slice b' o' len' cap' (some e') => bc (K.beq b b') (bc (Nat.beq o o') (bc (Nat.beq len len') (bc (Nat.beq cap cap') (Nat.beq e e') false) false) false) false
  | .nilMap, .nilMap => true
  | .map b, .map b' => K.beq b b'
  | .nilFunc, .nilFunc => true
  | .nilIface, .nilIface => true
  | .wse b, .wse b' => K.beq b b'
  | .sym k e A, .sym k' e' A' => bc (kbeq k k') (bc (seEq e e') (saSame A A') false) false
  | .sx c e A, .sx c' e' A' => bc (Nat.beq c c') (bc (seEq e e') (nsSame A A') false) false
  | .gv x, .gv y => gvSame x y
  | .wsl b k d n, .wsl b' k' d' n' => bc (K.beq b b') (bc (K.beq k k') (bc (Nat.beq d d') (Nat.beq n n') false) false) false
  | .wptr b k i, .wptr b' k' i' => bc (K.beq b b') (bc (K.beq k k') (Nat.beq i i') false) false
  | .esl, .esl => true
  | .top, .top => true
  | _, _ => false
def same1 : AV → AV → Bool
  | .iface t a, .iface t' a' => bc (Nat.beq t t') (same0 a a') false
  | a, b => same0 a b
def sameL : List AV → List AV → Bool
  | [], [] => true
  | a :: l, b :: m => bc (same1 a b) (sameL l m) false
  | _, _ => false
def listEq (f : AV → AV → Bool) : List AV → List AV → Bool
  | [], [] => true
  | a :: l, b :: m => bc (f a b) (listEq f l m) false
  | _, _ => false
def fnEq : Fn → Fn → Bool
  | .func f, .func g => Nat.beq f g
  | _, _ => false
/-- values that are surely the same, however deep -/
def avEq : Nat → AV → AV → Bool
  | 0, _, _ => false
  | n + 1, a, b => match a, b with
    | .agg l, .agg m => listEq (avEq n) l m
    | .tuple l, .tuple m => listEq (avEq n) l m
    | .iface t x, .iface t' y => bc (Nat.beq t t') (avEq n x y) false
    | .func f x y, .func g x' y' => bc (fnEq f g) (bc (listEq (avEq n) x x') (listEq (avEq n) y y') false) false
    | a, b => same0 a b
def same2 (a b : AV) : Bool := avEq 8 a b
/- laid variables: what lies in them -/
inductive LE where
  | mk (g : Nat) (cells : List AV)
/-- the laid variables of this seat (those that are asked for) -/
def laidL : List LE := [.mk 1 [.int .u8 128, .int .u8 191, .int .u8 160, .int .u8 191, .int .u8 128, .int .u8 159, .int .u8 144, .int .u8 191, .int .u8 128, .int .u8 143, .int .u8 0, .int .u8 0, .int .u8 0, .int .u8 0, .int .u8 0, .int .u8 0, .int .u8 0, .int .u8 0, .int .u8 0, .int .u8 0, .int .u8 0, .int .u8 0, .int .u8 0, .int .u8 0, .int .u8 0, .int .u8 0, .int .u8 0, .int .u8 0, .int .u8 0, .int .u8 0, .int .u8 0, .int .u8 0], .mk 0 [.int .u8 240, .int .u8 240, .int .u8 240, .int .u8 240, .int .u8 240, .int .u8 240, .int .u8 240, .int .u8 240, .int .u8 240, .int .u8 240, .int .u8 240, .int .u8 240, .int .u8 240, .int .u8 240, .int .u8 240, .int .u8 240, .int .u8 240, .int .u8 240, .int .u8 240, .int .u8 240, .int .u8 240, .int .u8 240, .int .u8 240, .int .u8 240, .int .u8 240, .int .u8 240, .int .u8 240, .int .u8 240, .int .u8 240, .int .u8 240, .int .u8 240, .int .u8 240, .int .u8 240, .int .u8 240, .int .u8 240, .int .u8 240, .int .u8 240, .int .u8 240, .int .u8 240, .int .u8 240, .int .u8 240, .int .u8 240, .int .u8 240, .int .u8 240, .int .u8 240, .int .u8 240, .int .u8 240, .int .u8 240, .int .u8 240, .int .u8 240, .int .u8 240, .int .u8 240, .int .u8 240, .int .u8 240, .int .u8 240, .int .u8 240, .int .u8 240, .int .u8 240, .int .u8 240, .int .u8 240, .int .u8 240, .int .u8 240, .int .u8 240, .int .u8 240, .int .u8 240, .int .u8 240, .int .u8 240, .int .u8 240, .int .u8 240, .int .u8 240, .int .u8 240, .int .u8 240, .int .u8 240, .int .u8 240, .int .u8 240, .int .u8 240, .int .u8 240, .int .u8 240, .int .u8 240, .int .u8 240, .int .u8 240, .int .u8 240, .int .u8 240, .int .u8 240, .int .u8 240, .int .u8 240, .int .u8 240, .int .u8 240, .int .u8 240, .int .u8 240, .int .u8 240, .int .u8 240, .int .u8 240, .int .u8 240, .int .u8 240, .int .u8 240, .int .u8 240, .int .u8 240, .int .u8 240, .int .u8 240, .int .u8 240, .int .u8 240, .int .u8 240, .int .u8 240, .int .u8 240, .int .u8 240, .int .u8 240, .int .u8 240, .int .u8 240, .int .u8 240, .int .u8 240, .int .u8 240, .int .u8 240, .int .u8 240, .int .u8 240, .int .u8 240, .int .u8 240, .int .u8 240, .int .u8 240, .int .u8 240, .int .u8 240, .int .u8 240, .int .u8 240, .int .u8 240, .int .u8 240, .int .u8 240, .int .u8 240, .int .u8 240, .int .u8 241, .int .u8 241, .int .u8 241, .int .u8 241, .int .u8 241, .int .u8 241, .int .u8 241, .int .u8 241, .int .u8 241, .int .u8 241, .int .u8 241, .int .u8 241, .int .u8 241, .int .u8 241, .int .u8 241, .int .u8 241, .int .u8 241, .int .u8 241, .int .u8 241, .int .u8 241, .int .u8 241, .int .u8 241, .int .u8 241, .int .u8 241, .int .u8 241, .int .u8 241, .int .u8 241, .int .u8 241, .int .u8 241, .int .u8 241, .int .u8 241, .int .u8 241, .int .u8 241, .int .u8 241, .int .u8 241, .int .u8 241, .int .u8 241, .int .u8 241, .int .u8 241, .int .u8 241, .int .u8 241, .int .u8 241, .int .u8 241, .int .u8 241, .int .u8 241, .int .u8 241, .int .u8 241, .int .u8 241, .int .u8 241, .int .u8 241, .int .u8 241, .int .u8 241, .int .u8 241, .int .u8 241, .int .u8 241, .int .u8 241, .int .u8 241, .int .u8 241, .int .u8 241, .int .u8 241, .int .u8 241, .int .u8 241, .int .u8 241, .int .u8 241, .int .u8 241, .int .u8 241, .int .u8 2, .int .u8 2, .int .u8 2, .int .u8 2, .int .u8 2, .int .u8 2, .int .u8 2, .int .u8 2, .int .u8 2, .int .u8 2, .int .u8 2, .int .u8 2, .int .u8 2, .int .u8 2, .int .u8 2, .int .u8 2, .int .u8 2, .int .u8 2, .int .u8 2, .int .u8 2, .int .u8 2, .int .u8 2, .int .u8 2, .int .u8 2, .int .u8 2, .int .u8 2, .int .u8 2, .int .u8 2, .int .u8 2, .int .u8 2, .int .u8 19, .int .u8 3, .int .u8 3, .int .u8 3, .int .u8 3, .int .u8 3, .int .u8 3, .int .u8 3, .int .u8 3, .int .u8 3, .int .u8 3, .int .u8 3, .int .u8 3, .int .u8 35, .int .u8 3, .int .u8 3, .int .u8 52, .int .u8 4, .int .u8 4, .int .u8 4, .int .u8 68, .int .u8 241, .int .u8 241, .int .u8 241, .int .u8 241, .int .u8 241, .int .u8 241, .int .u8 241, .int .u8 241, .int .u8 241, .int .u8 241, .int .u8 241]]
def laidIs : List LE → W → Bool
  | [], _ => true
  | .mk g cs :: l, w => (match wget (K.of g) w with
    | .ro t _ _ => bc (Nat.beq t (Nat.succ g)) (laidIs l w) false
    | _ => false)
def layH : List LE → H4
  | [] => h4none
  | .mk g cs :: l => hset (K.of g) (.ro (Nat.succ g) (llen cs) (cfill cs 0 (cempty (llen cs)))) (layH l)
def laidFine : List LE → Bool
  | [] => true
  | .mk g cs :: l => bc (Nat.ble g 255 && frees cs && Nat.ble (llen cs) 65536) (laidFine l) false
def wS : W := .mk (layH laidL) (K.of 256)
/- slices.Insert at ints: the slices that it makes are windows (a new key each time, the old one forgotten) -/
def hookK (o : Option CR) : Ih → FuncId → List AV → W → CR := Option.rec (motive := fun _ => Ih → FuncId → List AV → W → CR) enterP (fun r _ _ _ _ => r) o
def enter (ih : Ih) (f : FuncId) (vs : List AV) (w : W) : CR := hookK (ih.hook f vs w) ih f vs w

/- loops over functions: one round -/
def fputs (nt : Nat) : List Nat → List AV → F → F
  | t :: ts, v :: vs, τ => fputs nt ts vs (fputD nt t v τ)
  | _, _, τ => τ
def endR (b : K) (jump : Option Code) (st : LoopState) (v : Bool) (w : W) : CR := match wget b w with
  | .loop _ _ fn nt τ ps x y kd => .ret (.bool v) (wset b (.loop st jump fn nt τ ps x y kd) w)
  | _ => .no 245 0
def yieldE (b : K) (fn : Nat) (r : R) : CR := match r with
  | .n (.mk _ [] _ w) => endR b none .ready true w
  | .x id (.mk _ [] _ w) => endR b (some (.exit id)) .done false w
  | .r (.mk _ [] _ w) => endR b (some .ret) .done false w
  | .p ch (.mk _ [] _ w) => bc (fnOf fn).isSome (.pan ch w) (.no 244 fn)
  | .no c f => .no c f
  | _ => .no 244 fn
def yieldB (ih : Ih) (b : K) (fn nt : Nat) (y : Code) (r : R) : CR := match r with
  | .n (.mk τ [] um w) => (match wget b w with
    | .loop .ready pend fn' nt' τ' ps x y' kd => yieldE b fn (ih y (.mk fn nt false (some b)) (.mk τ [] um (wset b (.loop .busy pend fn' nt' τ' ps x y' kd) w)))
    | _ => .no 242 fn)
  | .no c f => .no c f
  | _ => .no 243 fn
def yieldR (ih : Ih) (b : K) (vs : List AV) (w : W) : CR := match wget b w with
  | .loop _ _ fn nt τ ps x y _ => bc (Nat.beq (llen ps) (llen vs)) (yieldB ih b fn nt y (ih x (.mk fn nt false (some b)) (.mk (fputs nt ps vs τ) [] .none w))) (.no 240 fn)
  | _ => .no 241 0

/- operations in order -/
def wants (g : Nat × Bool) (all : List Oper) (τ : F) : Option Bool :=
  match (nth all g.1).bind (·.dst) with
  | some d => (match fget d τ with | .bool b => some (b == g.2) | .tuple _ => some false | _ => none)
  | none => none
def oVal (v : AV) (w : W) (dst : Option Nat) (IH : Oh) (ih : Ih) (all : List Oper) (C : Ctx) (τ : F) (ds : List AD) (um : UM) : R :=
  IH ih all C (.mk (fput C.nt dst v τ) ds um w)
def crK (r : CR) : Option Nat → Oh → Ih → List Oper → Ctx → F → List AD → UM → R :=
  CR.rec (motive := fun _ => Option Nat → Oh → Ih → List Oper → Ctx → F → List AD → UM → R)
    oVal
    (fun ch w _ _ _ _ _ τ ds um => .p ch (.mk τ ds um w))
    (fun c f _ _ _ _ _ _ _ _ => .no c f) r
def oCall (f : FuncId) (vs : List AV) (w : W) (dst : Option Nat) (IH : Oh) (ih : Ih) (all : List Oper) (C : Ctx) (τ : F) (ds : List AD) (um : UM) : R :=
  crK (enter ih f vs w) dst IH ih all C τ ds um
def oYld (b : K) (vs : List AV) (w : W) (dst : Option Nat) (IH : Oh) (ih : Ih) (all : List Oper) (C : Ctx) (τ : F) (ds : List AD) (um : UM) : R :=
  crK (yieldR ih b vs w) dst IH ih all C τ ds um
def oPan (v : AV) (w : W) (dst : Option Nat) (IH : Oh) (ih : Ih) (all : List Oper) (C : Ctx) (τ : F) (ds : List AD) (um : UM) : R := .p [.mk v false] (.mk τ ds um w)
def oDfr (d : AD) (w : W) (dst : Option Nat) (IH : Oh) (ih : Ih) (all : List Oper) (C : Ctx) (τ : F) (ds : List AD) (um : UM) : R :=
  match C.round with
  | none => IH ih all C (.mk (fput C.nt dst undefA τ) (d :: ds) um w)
  | some _ => .no 211 C.fn
def oRcv (w : W) (dst : Option Nat) (IH : Oh) (ih : Ih) (all : List Oper) (C : Ctx) (τ : F) (ds : List AD) (um : UM) : R :=
  match C.round, C.dfr, um with
  | some _, _, _ => .no 212 C.fn
  | none, true, .pan (.mk v false :: older) => IH ih all C (.mk (fput C.nt dst v τ) ds (.pan (.mk v true :: older)) w)
  | none, _, um => IH ih all C (.mk (fput C.nt dst .nilIface τ) ds um w)
def orK (r : OR) : Option Nat → Oh → Ih → List Oper → Ctx → F → List AD → UM → R :=
  OR.rec (motive := fun _ => Option Nat → Oh → Ih → List Oper → Ctx → F → List AD → UM → R)
    oVal oCall oYld oPan oDfr oRcv (fun c _ _ _ _ C _ _ _ => .no c C.fn) r
def oGo (dst : Option Nat) (op : Op) (IH : Oh) (ih : Ih) (all : List Oper) (C : Ctx) (S : FSt) : R :=
  FSt.rec (motive := fun _ => Option Nat → Op → Oh → Ih → List Oper → Ctx → R)
    (fun τ ds um w dst op IH ih all C => orK (gOp op τ w) dst IH ih all C τ ds um) S dst op IH ih all C
def oSkip (dst : Option Nat) (IH : Oh) (ih : Ih) (all : List Oper) (C : Ctx) (S : FSt) : R :=
  FSt.rec (motive := fun _ => Option Nat → Oh → Ih → List Oper → Ctx → R)
    (fun τ ds um w dst IH ih all C => IH ih all C (.mk (fput C.nt dst undefA τ) ds um w)) S dst IH ih all C
def oGuard (g : Nat × Bool) (dst : Option Nat) (op : Op) (IH : Oh) (ih : Ih) (all : List Oper) (C : Ctx) (S : FSt) : R :=
  match S with
  | .mk τ _ _ _ => match wants g all τ with
    | some true => oGo dst op IH ih all C S
    | some false => oSkip dst IH ih all C S
    | none => .no 213 C.fn
def oGuards (g : Option (Nat × Bool)) : Option Nat → Op → Oh → Ih → List Oper → Ctx → FSt → R :=
  Option.rec (motive := fun _ => Option Nat → Op → Oh → Ih → List Oper → Ctx → FSt → R) oGo oGuard g
def oStep (o : Oper) : Oh → Ih → List Oper → Ctx → FSt → R :=
  Oper.rec (motive := fun _ => Oh → Ih → List Oper → Ctx → FSt → R)
    (fun dst op _ _ _ g IH ih all C S => oGuards g dst op IH ih all C S) o
def evOps (l : List Oper) : Oh :=
  List.rec (motive := fun _ => Oh) (fun _ _ _ S => .n S) (fun o _ IH ih all C S => oStep o IH ih all C S) l

/- regions whose order is drawn: run in the order of the text, with checks -/
/- sets of numbers below 256 as numbers; rows of such sets as one number -/
def tb (m i : Nat) : Bool := Nat.beq (Nat.land (Nat.shiftRight m i) 1) 1
def two256 : Nat := 115792089237316195423570985008687907853269984665640564039457584007913129639936
def fld (M t : Nat) : Nat := Nat.mod (Nat.shiftRight M (Nat.mul t 256)) two256
def fldOr (M t m : Nat) : Nat := Nat.lor M (Nat.shiftLeft (Nat.mod m two256) (Nat.mul t 256))
def subM (x y : Nat) : Bool := Nat.beq (Nat.land x y) x
def emask : List Edge → Nat → Nat → Nat
  | [], _, s => s
  | e :: es, B, s => emask es B (bc (Region.binds .any e) (Nat.lor (Nat.lor s (Nat.shiftLeft 1 e.on)) (fld B e.on)) s)
def bmGo : List Oper → Nat → Nat → Nat
  | [], _, B => B
  | o :: os, j, B => bmGo os (Nat.succ j) (fldOr B j (emask o.after.toList B 0))
def bmAll (ops : Array Oper) : Nat := bmGo ops.toList 0 0
def bmask (ops : Array Oper) (j : Nat) : Nat := fld (bmAll ops) j
/-- operation i is surely run before operation j -/
def isBef (ops : Array Oper) (i j : Nat) : Bool := tb (bmask ops j) i
inductive CL where
  | pu
  | rd
  | fl
  | ef
  | mu
def cls0 : Op → CL
  | .move _ => .pu
  | .assign _ => .pu
  | .fieldAddr .. => .pu
  | .extract .. => .pu
  | .nilCheck _ => .pu
  | .load .. => .rd
  | .lookup .. => .rd
  | .convert .. => .rd
  | .binOp .. => .rd
  | .unOp .. => .rd
  | .index .. => .rd
  | .indexAddr .. => .rd
  | .field .. => .rd
  | .slice .. => .rd
  | .typeAssert .. => .rd
  | .pick .. => .rd
  | .build .. => .rd
  | .makeInterface .. => .rd
  | .makeFunc .. => .rd
  | .call { callee := .builtin .len, .. } => .rd
  | .alloc _ => .fl
  | .box .. => .fl
  | .buildSlice .. => .fl
  | .makeMap .. => .fl
  | _ => .ef
/-- a map that a region makes for itself alone: where it is made, its slot -/
inductive PM where
  | none
  | mk (i d : Nat)
def clsT (t : Nat) (d : Nat) : CL := bc (Nat.beq t d) .mu .ef
def cls1 (d : Nat) : Op → CL
  | .insert _ (.tmp t) _ _ => clsT t d
  | op => cls0 op
def cls (pm : PM) (op : Op) : CL := PM.rec (motive := fun _ => Op → CL) cls0 (fun _ d => cls1 d) pm op
def isP (pm : PM) (j : Nat) : Bool := match pm with
  | .none => false
  | .mk i _ => Nat.beq i j
def noP : PM → Bool
  | .none => true
  | .mk _ _ => false
def isMk : Op → Bool
  | .makeMap _ _ => true
  | _ => false
def pmGo : List Oper → Nat → PM
  | [], _ => .none
  | o :: l, i => bc (isMk o.op) (match o.dst with
    | some d => .mk i d
    | none => pmGo l (Nat.succ i)) (pmGo l (Nat.succ i))
inductive PV where
  | none
  | mk (k : K) (es : List (AV × AV))
def apart (a b : AV) : Bool := match keyEq a b, keyEq b a with
  | some false, some false => true
  | _, _ => false
def apartAll (a : AV) : List (AV × AV) → Bool
  | [] => true
  | e :: l => bc (apart a e.1) (apartAll a l) false
def pairB : List (AV × AV) → Bool
  | [] => true
  | e :: l => bc (apartAll e.1 l) (pairB l) false
def pvOk : PV → Bool
  | .none => true
  | .mk _ es => pairB es
def isMapAt (k : K) : AV → Bool
  | .map b => K.beq b k
  | _ => false
def dPut (p : PV) (w : W) : W := match p with
  | .none => w
  | .mk k es => wset k (.umap es) w
def isEf : CL → Bool
  | .ef => true
  | _ => false
def isFl : CL → Bool
  | .fl => true
  | _ => false
def allN (p : Nat → Bool) : Nat → Bool
  | 0 => true
  | n + 1 => bc (p n) (allN p n) false
def numFl (pm : PM) : List Oper → Nat
  | [] => 0
  | o :: l => bc (isFl (cls pm o.op)) (numFl pm l + 1) (numFl pm l)
def opsLen (ops : Array Oper) : Nat := llen ops.toList
def effsGo (pm : PM) : List Oper → Nat → List Nat
  | [], _ => []
  | o :: l, j => bc (isEf (cls pm o.op)) (j :: effsGo pm l (Nat.succ j)) (effsGo pm l (Nat.succ j))
def effs (pm : PM) (ops : Array Oper) : List Nat := effsGo pm ops.toList 0
def allL (p : Nat → Bool) : List Nat → Bool
  | [] => true
  | x :: l => bc (p x) (allL p l) false
/-- the phases in which a read may be run -/
def allowed (pm : PM) (ops : Array Oper) (j e : Nat) : Bool :=
  allL (fun x => bc (bc (isBef ops x j) (Nat.blt x e) true) (bc (Nat.blt x e) (bnot (isBef ops j x)) true) false) (effs pm ops)
/-- an effect that may come before or behind the operation -/
def multi (pm : PM) (ops : Array Oper) (j : Nat) : Bool :=
  bnot (allL (fun x => bc (bc (Nat.blt x j) (isBef ops x j) true) (bc (Nat.blt j x) (isBef ops j x) true) false) (effs pm ops))
def tmpsOf : List Operand → List Nat
  | [] => []
  | .tmp t :: l => t :: tmpsOf l
  | _ :: l => tmpsOf l
def looksA (all : List Oper) (o : Oper) : List Nat :=
  tmpsOf o.op.operands.toList ++ (o.dst.toList ++ (match o.guard with
    | some g => ((nth all g.1).bind (·.dst)).toList
    | none => []))
def edgesOk (j : Nat) : List Edge → Bool
  | [] => true
  | e :: l => bc (bc (Region.binds .any e) (Nat.blt e.on j) true) (edgesOk j l) false
def tmpsIn (Wm b : Nat) : List Nat → Bool
  | [] => true
  | t :: l => bc (subM (fld Wm t) b) (tmpsIn Wm b l) false
def dstIn (Rm b : Nat) : Option Nat → Bool
  | none => true
  | some d => subM (fld Rm d) b
def addW (Wm j : Nat) : Option Nat → Nat
  | none => Wm
  | some d => fldOr Wm d (Nat.shiftLeft 1 j)
def addR (j : Nat) : List Nat → Nat → Nat
  | [], Rm => Rm
  | t :: l, Rm => addR j l (fldOr Rm t (Nat.shiftLeft 1 j))
def dOkGo (pm : PM) (all : List Oper) (B : Nat) : List Oper → Nat → Nat → Nat → Nat → Bool
  | [], _, _, _, _ => true
  | o :: os, j, Wm, Rm, Em =>
    bc (edgesOk j o.after.toList) (bc (tmpsIn Wm (fld B j) (looksA all o)) (bc (dstIn Rm (fld B j) o.dst) (bc (bc (isEf (cls pm o.op)) (subM Em (fld B j)) true)
      (dOkGo pm all B os (Nat.succ j) (addW Wm j o.dst) (addR j (looksA all o) Rm) (bc (isEf (cls pm o.op)) (Nat.lor Em (Nat.shiftLeft 1 j)) Em)) false) false) false) false
def drawOk (pm : PM) (ops : Array Oper) : Bool := bc (Nat.ble (opsLen ops) 256) (dOkGo pm ops.toList (bmAll ops) ops.toList 0 0 0 0) false
/- a region in which an operation panics: those that come behind it are struck out -/
def dummy : Oper := { dst := none, op := .move (.func 0), type := 0, pos := "", after := #[], guard := none }
def blankGo (B p : Nat) : List Oper → Nat → List Oper
  | [], _ => []
  | o :: l, j => bc (tb (fld B j) p) dummy o :: blankGo B p l (Nat.succ j)
def blank (ops : Array Oper) (p : Nat) : Array Oper := (blankGo (bmAll ops) p ops.toList 0).toArray
def guardOff (ops : Array Oper) (p : Nat) (o : Oper) : Bool := match o.guard with
  | some g => bnot (isBef ops p g.1)
  | none => true
def panAt (ops opsT : Array Oper) (p j : Nat) : Bool := bc (isBef ops p j) true (bc (Nat.beq (bmask ops j) (bmask opsT j)) (bc (bc (multi .none opsT j) (multi .none ops j) true) (match nth ops.toList j with
  | some o => guardOff ops p o
  | none => true) false) false)
def panOk (ops opsT : Array Oper) (p : Nat) : Bool := bc (drawOk .none opsT) (bc (allN (fun j => bnot (isBef ops p j)) (Nat.succ p)) (allN (panAt ops opsT p) (opsLen ops)) false) false
/-- the slots that a region writes are not known -/
def clearD (nt : Nat) : List Oper → F → F
  | [], τ => τ
  | o :: l, τ => clearD nt l (fput nt o.dst .top τ)
inductive PF where
  | mk (i : Nat) (k : K) (o : AObj)
inductive RC where
  | mk (i : Nat) (op : Op) (τ : F) (v : AV)
inductive DS where
  | mk (τ : F) (w : W) (fk : K) (pend : List PF) (hist : List (Nat × W)) (recs : List RC) (pv : PV)
/-- pan: a call within the region panics: with what, the heap then, which operation it is, the state as if it had done nothing -/
inductive DX where
  | ok (s : DS)
  | pan (ch : List PE) (w : W) (p : Nat) (s : DS)
  | no (c f : Nat)
def dAdopt (m : Nat) : List PF → W → W
  | [], w => w
  | .mk i k o :: l, w => bc (tb m i) (wset k o (dAdopt m l w)) (dAdopt m l w)
def dRest (m : Nat) : List PF → List PF
  | [] => []
  | .mk i k o :: l => bc (tb m i) (dRest m l) (.mk i k o :: dRest m l)
def dAll : List PF → W → W
  | [], w => w
  | .mk _ k o :: l, w => wset k o (dAll l w)
def hOf : W → H4 | .mk h _ => h
def dPure (o : Oper) (nt fn : Nat) : DS → DX
  | .mk τ w fk pend hist recs pv => match gD o.op τ w with
    | .val v _ => .ok (.mk (fput nt o.dst v τ) w fk pend hist recs pv)
    | .no c => .no c fn
    | _ => .no 230 fn
def dRead (pm : PM) (ops : Array Oper) (i : Nat) (o : Oper) (nt fn : Nat) : DS → DX
  | .mk τ w fk pend hist recs pv => match gD o.op τ w with
    | .val v _ => .ok (.mk (fput nt o.dst v τ) w fk pend hist (bc (multi pm ops i) (.mk i o.op τ v :: recs) recs) pv)
    | .no c => .no c fn
    | _ => .no 231 fn
def isMap0 : AObj → Bool
  | .map [] => true
  | _ => false
def dFloat (pm : PM) (i : Nat) (o : Oper) (nt fn : Nat) : DS → DX
  | .mk τ w fk pend hist recs pv => match gD o.op τ (.mk (hOf w) fk) with
    | .val v (.mk h' _) => bc (isP pm i)
        (bc (isMap0 (hget fk h')) (.ok (.mk (fput nt o.dst v τ) w fk.succ pend hist recs (.mk fk []))) (.no 239 fn))
        (.ok (.mk (fput nt o.dst v τ) w fk.succ (.mk i fk (hget fk h') :: pend) hist recs pv))
    | .no c => .no c fn
    | _ => .no 232 fn
def dMu (o : Oper) (nt fn : Nat) : DS → DX
  | .mk τ w fk pend hist recs (.mk k es) => (match o.op, o.guard with
    | .insert t m x y, none => bc (plainKey t && keyOk t (evX x τ) && isMapAt k (evX m τ))
        (.ok (.mk (fput nt o.dst undefA τ) w fk pend hist recs (.mk k (es ++ [(evX x τ, evX y τ)])))) (.no 229 fn)
    | _, _ => .no 228 fn)
  | _ => .no 227 fn
def dEff (pm : PM) (ih : Ih) (ops : Array Oper) (i : Nat) (o : Oper) (nt fn : Nat) : DS → DX
  | .mk τ w fk pend hist recs pv => match gD o.op τ (dAdopt (bmask ops i) pend w) with
    | .val v w' => .ok (.mk (fput nt o.dst v τ) w' fk (dRest (bmask ops i) pend) ((i, w) :: hist) recs pv)
    | .call f vs w' => (match enter ih f vs w' with
      | .ret v w'' => .ok (.mk (fput nt o.dst v τ) w'' fk (dRest (bmask ops i) pend) ((i, w) :: hist) recs pv)
      | .no c f => .no c f
      | .pan ch w'' => bc (noP pm) (.pan ch w'' i (.mk (fput nt o.dst .top τ) (dAdopt (bmask ops i) pend w) fk (dRest (bmask ops i) pend) ((i, w) :: hist) recs pv)) (.no 233 fn))
    | .no c => .no c fn
    | _ => .no 234 fn
def dGo (pm : PM) (ih : Ih) (ops : Array Oper) (i : Nat) (o : Oper) (nt fn : Nat) (s : DS) : DX := match cls pm o.op with
  | .pu => dPure o nt fn s
  | .rd => dRead pm ops i o nt fn s
  | .fl => dFloat pm i o nt fn s
  | .ef => dEff pm ih ops i o nt fn s
  | .mu => dMu o nt fn s
def dSkip (pm : PM) (ops : Array Oper) (i : Nat) (o : Oper) (nt : Nat) : DS → DX
  | .mk τ w fk pend hist recs pv => match cls pm o.op with
    | .ef => .ok (.mk (fput nt o.dst undefA τ) (dAdopt (bmask ops i) pend w) fk (dRest (bmask ops i) pend) ((i, w) :: hist) recs pv)
    | .mu => .no 226 0
    | _ => .ok (.mk (fput nt o.dst undefA τ) w fk pend hist recs pv)
def DS.τ : DS → F | .mk τ .. => τ
def DS.w : DS → W | .mk _ w .. => w
def DS.fk : DS → K | .mk _ _ fk .. => fk
def DS.pend : DS → List PF | .mk _ _ _ p .. => p
def DS.hist : DS → List (Nat × W) | .mk _ _ _ _ h .. => h
def DS.recs : DS → List RC | .mk _ _ _ _ _ r _ => r
def DS.pv : DS → PV | .mk _ _ _ _ _ _ p => p
def dStep (pm : PM) (ih : Ih) (ops : Array Oper) (i : Nat) (o : Oper) (nt fn : Nat) (s : DS) : DX := match o.guard with
  | none => dGo pm ih ops i o nt fn s
  | some g => match wants g ops.toList s.τ with
    | some true => dGo pm ih ops i o nt fn s
    | some false => dSkip pm ops i o nt s
    | none => .no 235 fn
def dBind (r : DX) (k : DS → DX) : DX := match r with
  | .ok s => k s
  | .pan ch w p s => .pan ch w p s
  | .no c f => .no c f
def dOps (pm : PM) (ih : Ih) (ops : Array Oper) (nt fn : Nat) : List Oper → Nat → DS → DX
  | [], _, s => .ok s
  | o :: l, i, s => dBind (dStep pm ih ops i o nt fn s) (dOps pm ih ops nt fn l (i + 1))
def recAt (op : Op) (τ : F) (v : AV) (w : W) : Bool := match gD op τ w with
  | .val v' _ => same2 v v'
  | _ => false
def dRec (pm : PM) (ops : Array Oper) : RC → List (Nat × W) → Bool
  | _, [] => true
  | .mk i op τ v, (e, w) :: l => bc (bc (allowed pm ops i e) (recAt op τ v w) true) (dRec pm ops (.mk i op τ v) l) false
def dRecs (pm : PM) (ops : Array Oper) : List RC → List (Nat × W) → Bool
  | [], _ => true
  | r :: l, h => bc (dRec pm ops r h) (dRecs pm ops l h) false
def dTail (ops opsT : Array Oper) (fn nt : Nat) (τ0 : F) (ds : List AD) (um : UM) (ch : List PE) (w2 : W) : DX → R
  | .ok (.mk _ w _ _ hist recs _) => bc (dRecs .none opsT recs ((opsLen ops, w) :: hist)) (.p ch (.mk (clearD nt ops.toList τ0) ds um w2)) (.no 236 fn)
  | .pan _ _ _ _ => .no 225 fn
  | .no c f => .no c f
def dEndP (ih : Ih) (ops opsT : Array Oper) (fn nt : Nat) (τ0 : F) (ds : List AD) (um : UM) (ch : List PE) (w2 : W) (p : Nat) (s : DS) : R :=
  bc (panOk ops opsT p) (dTail ops opsT fn nt τ0 ds um ch w2 (dOps .none ih opsT nt fn (opsT.toList.drop (Nat.succ p)) (Nat.succ p) s)) (.no 233 fn)
def dEnd (pm : PM) (ih : Ih) (ops : Array Oper) (fn nt : Nat) (τ0 : F) (ds : List AD) (um : UM) : DX → R
  | .ok (.mk τ w _ pend hist recs pv) => bc (dRecs pm ops recs ((opsLen ops, w) :: hist) && pvOk pv) (.n (.mk τ ds um (dPut pv (dAll pend w)))) (.no 236 fn)
  | .pan ch w2 p s => dEndP ih ops (blank ops p) fn nt τ0 ds um ch w2 p s
  | .no c f => .no c f
def resv : Nat → K → Option K
  | 0, k => some k
  | n + 1, k => bc k.isMax none (resv n k.succ)
def dStart (pm : PM) (ih : Ih) (ops : Array Oper) (nt fn : Nat) (τ : F) (h : H4) (nx : K) (ds : List AD) (um : UM) : Option K → R
  | some nx' => dEnd pm ih ops fn nt τ ds um (dOps pm ih ops nt fn ops.toList 0 (.mk τ (.mk h nx') nx [] [] [] .none))
  | none => .no 237 fn
def cDrawP (pm : PM) (ops : Array Oper) (ih : Ih) (C : Ctx) : FSt → R
  | .mk τ ds um (.mk h nx) => bc (drawOk pm ops) (dStart pm ih ops C.nt C.fn τ h nx ds um (resv (numFl pm ops.toList) nx)) (.no 238 C.fn)
def cDraw (_ : Nat) (ops : Array Oper) (ih : Ih) (C : Ctx) (S : FSt) : R := bc (drawOk .none ops) (cDrawP .none ops ih C S) (cDrawP (pmGo ops.toList 0) ops ih C S)

/- control -/
def cPlain (_ : Nat) (ops : Array Oper) (ih : Ih) (C : Ctx) (S : FSt) : R := evOps ops.toList ih ops.toList C S
def cRegion (id : Nat) (ops : Array Oper) (draw : Bool) : Ih → Ctx → FSt → R := Bool.rec (motive := fun _ => Nat → Array Oper → Ih → Ctx → FSt → R) cPlain cDraw draw id ops
def seqK (r : R) : Ih → Code → Ctx → R := R.rec (motive := fun _ => Ih → Code → Ctx → R)
  (fun S ih b C => ih b C S) (fun id S _ _ _ => .x id S) (fun S _ _ _ => .r S) (fun ch S _ _ _ => .p ch S) (fun c f _ _ _ => .no c f) r
abbrev Rh := Ih → Ctx → FSt → R
def cSeq (a b : Code) (_ _ : Rh) (ih : Ih) (C : Ctx) (S : FSt) : R := seqK (ih a C S) ih b C
def condK (v : AV) (x y : Code) (ih : Ih) (C : Ctx) (S : FSt) : R := match v with
  | .bool b => ih (bc b x y) C S
  | _ => .no 214 C.fn
def FSt.τ (S : FSt) : F := FSt.rec (motive := fun _ => F) (fun τ _ _ _ => τ) S
def cCond (c : Operand) (x y : Code) (_ _ : Rh) (ih : Ih) (C : Ctx) (S : FSt) : R := condK (evX c S.τ) x y ih C S
def blockK (r : R) : Nat → R := R.rec (motive := fun _ => Nat → R)
  (fun S _ => .n S) (fun id' S id => bc (Nat.beq id' id) (.n S) (.x id' S)) (fun S _ => .r S) (fun ch S _ => .p ch S) (fun c f _ => .no c f) r
def cBlock (id : Nat) (b : Code) (_ : Rh) (ih : Ih) (C : Ctx) (S : FSt) : R := blockK (ih b C S) id
def cLoopP (b : Code) (ih : Ih) (C : Ctx) (S : FSt) : R := seqK (ih b C S) ih (.loop b) C
def loopK (o : Option R) : Code → Ih → Ctx → FSt → R := Option.rec (motive := fun _ => Code → Ih → Ctx → FSt → R) cLoopP (fun r _ _ _ _ => r) o
def cLoop (b : Code) (_ : Rh) (ih : Ih) (C : Ctx) (S : FSt) : R := loopK (ih.lp C b S) b ih C S
def isBusy : LoopState → Bool
  | .busy => true
  | _ => false
def rangeE (τ : F) (ds : List AD) (um : UM) (kl : K) (r : CR) : R := match r with
  | .ret _ w => (match wget kl w with
    | .loop st pend fn nt τ' ps x y kd => bc (isBusy st) (.no 248 fn) (match pend with
      | none => .n (.mk τ ds um (wset kl (.loop .exhausted pend fn nt τ' ps x y kd) w))
      | some (.exit id) => .x id (.mk τ ds um (wset kl (.loop .exhausted pend fn nt τ' ps x y kd) w))
      | some .ret => .r (.mk τ ds um (wset kl (.loop .exhausted pend fn nt τ' ps x y kd) w))
      | _ => .no 249 fn)
    | _ => .no 250 0)
  | .pan ch w => .p ch (.mk τ ds um w)
  | .no c f => .no c f
def rangeB (ih : Ih) (fn : Nat) (τ : F) (ds : List AD) (um : UM) (kl : K) (r : OR) : R := match r with
  | .call g vs w => rangeE τ ds um kl (enter ih g vs w)
  | _ => .no 247 fn
def cRange (f : Operand) (ps : Array Tmp) (x y : Code) (ih : Ih) (C : Ctx) (S : FSt) : R := match S, C.round with
  | .mk τ ds um (.mk h nx), none => bc nx.isMax (.no 246 0) (bc nx.succ.isMax (.no 246 1)
      (rangeB ih C.fn τ (.coll nx :: ds) um nx.succ (callV (evX f τ) [.func (.yield nx.succ.num) [] []] (.mk (hset nx.succ (.loop .ready none C.fn C.nt τ ps.toList x y nx) (hset nx (.deferred (some [])) h)) nx.succ.succ))))
  | _, _ => .no 246 2
def stepC (ih : Ih) (c : Code) : Ctx → FSt → R := Code.rec (motive := fun _ => Rh)
  (fun _ _ S => .n S) cRegion cSeq cCond cBlock cLoop (fun f ps x y _ _ => cRange f ps x y) (fun id _ _ S => .x id S)
  (fun _ _ _ C _ => .no 216 C.fn) (fun _ _ _ S => .n S) (fun _ _ C _ => .no 217 C.fn) (fun _ _ S => .r S) (fun _ _ C _ => .no 218 C.fn) c ih
abbrev Hook := FuncId → List AV → W → Option CR
/-- loops that are known -/
abbrev LHook := Ctx → Code → FSt → Option R
def noLp (_ : Ctx) (_ : Code) (_ : FSt) : Option R := none
def runG (H : Hook) (L : LHook) (n : Nat) : Code → Ctx → FSt → R := Nat.rec (motive := fun _ => Code → Ctx → FSt → R) (fun _ _ _ => .no 219 0) (fun _ r => stepC (Ih.mk H r L)) n
def runL (H : Hook) (L : LHook) (n : Nat) : Ih := Ih.mk H (runG H L n) L
def run (H : Hook) (n : Nat) : Ih := runL H noLp n
def noHook (_ : FuncId) (_ : List AV) (_ : W) : Option CR := none
/-- calls that are known -/
inductive HE where
  | mk (f : FuncId) (vs : List AV) (v : AV)
def known (l : List HE) (f : FuncId) (vs : List AV) : Option AV := match l with
  | [] => none
  | .mk g us v :: l => bc (Nat.beq f g) (bc (sameL us vs) (some v) (known l f vs)) (known l f vs)
def hookA (o : Option AV) (w : W) : Option CR := match o with
  | some v => bc (laidIs laidL w) (some (.ret v w)) none
  | none => none
def hooks (l : List HE) (f : FuncId) (vs : List AV) (w : W) : Option CR := hookA (known l f vs) w
def alsoK (o : Option CR) (H : Hook) (f : FuncId) (vs : List AV) (w : W) : Option CR := match o with
  | some r => some r
  | none => H f vs w
def orH (H G : Hook) (f : FuncId) (vs : List AV) (w : W) : Option CR := alsoK (H f vs w) G f vs w
def retV (r : CR) (v : AV) : Bool := match r with
  | .ret v' _ => same2 v v'
  | _ => false
def w0 : W := .mk h4none (K.of 256)
end
end Go.Ev
