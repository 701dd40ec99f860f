import Derived.Test.YtdeddgiacdjjdaaGreatDoorEvFx
set_option linter.all false
namespace Go.Ev
noncomputable section
inductive PE where
 | mk (v : AV) (rec : Bool)
inductive UM where
 | none
 | ret
 | pan (ch : List PE)
inductive FSt where
 | mk (τ : F) (ds : List AD) (um : UM) (w : W)
inductive Ctx where
 | mk (fn nt : Nat) (dfr : Bool) (round : Option K)
def Ctx.nt (C : Ctx) : Nat := Ctx.rec (motive := fun _ => Nat) (fun _ nt _ _ => nt) C
def Ctx.fn (C : Ctx) : Nat := Ctx.rec (motive := fun _ => Nat) (fun fn _ _ _ => fn) C
def Ctx.dfr (C : Ctx) : Bool := Ctx.rec (motive := fun _ => Bool) (fun _ _ d _ => d) C
def Ctx.round (C : Ctx) : Option K := Ctx.rec (motive := fun _ => Option K) (fun _ _ _ r => r) C
inductive R where
 | n (S : FSt)
 | x (id : Nat) (S : FSt)
 | r (S : FSt)
 | p (ch : List PE) (S : FSt)
 | no (c f : Nat)
inductive CR where
 | ret (v : AV) (w : W)
 | pan (ch : List PE) (w : W)
 | no (c f : Nat)
structure Ih where
 hook : FuncId → List AV → W → Option CR
 run : Code → Ctx → FSt → R
 lp : Ctx → Code → FSt → Option R
instance : CoeFun Ih (fun _ => Code → Ctx → FSt → R) := ⟨Ih.run⟩
abbrev Oh := Ih → List Oper → Ctx → FSt → R
def ag7 (τ : F) (w : W) : ResultVar → Option AV
 | .tmp t => some (ev t τ)
 | .cell a t => match ev a τ with
   | .ptr b o => (match qh t (.ptr b o) w with
     | .val v _ => some v
     | _ => none)
   | _ => none
def ac6 (τ : F) (w : W) : List ResultVar → Option (List AV)
 | [] => some []
 | r :: rs => (ag7 τ w r).bind fun v => (ac6 τ w rs).map (v :: ·)
def a5r : List AV → AV
 | [v] => v
 | vs => .tuple vs
def results (fn : Func) (τ : F) (w : W) : CR := match ac6 τ w fn.results.toList with
 | some vs => .ret (a5r vs) w
 | none => .no 200 0
def settle : UM → UM
 | .pan (.mk _ true :: _) => .ret
 | u => u
def raised (u : UM) (ch : List PE) : UM := match u with
 | .pan old => .pan (ch ++ old)
 | _ => .pan ch
inductive DR where
 | ret (u : UM) (w : W)
 | pan (ch : List PE) (u : UM) (w : W)
 | no (c f : Nat)
def pz (f : FuncId) : Option (Func × Code) := match ad4 f with
 | some fn => match fn.body with
   | some c => bc (Nat.ble fn.ntmps 512) (some (fn, c)) none
   | none => none
 | none => none
def adf (ih : Ih) (fn : Func) (c : Code) (f : FuncId) (vs : List AV) (dfr : Bool) (u : UM) (w : W) : R :=
 bc (Nat.ble (bl vs) fn.ntmps) (ih c (.mk f fn.ntmps dfr none) (.mk (na vs 0 lr) [] u w)) (.no 201 f)
def yo (fn : Func) (r : R) : DR := match r with
 | .n (.mk τ [] u w) | .r (.mk τ [] u w) => (match results fn τ w with | .ret _ _ => .ret u w | _ => .no 202 0)
 | .p ch (.mk _ [] u w) => .pan ch u w
 | .no c f => .no c f
 | _ => .no 203 0
def abp (ih : Ih) (f : FuncId) (vs : List AV) (u : UM) (w : W) : DR := match pz f with
 | some (fn, c) => yo fn (adf ih fn c f vs true u w)
 | none => .no 204 f
def lz (ih : Ih) (fn : Func) (τ : F) : List AD → UM → W → CR
 | [], .ret, w => results fn τ w
 | [], .pan ch, w => .pan ch w
 | [], .none, _ => .no 205 0
 | .call (.func f) cap args :: ds, u, w => (match qf f (args ++ cap) w with
   | .call f vs w => (match abp ih f vs u w with
     | .ret u' w' => lz ih fn τ ds (settle u') w'
     | .pan ch u' w' => lz ih fn τ ds (raised u' ch) w'
     | .no c f => .no c f)
   | _ => .no 206 0)
 | .coll b :: ds, u, w => (match bz b w with
   | .deferred (some []) => lz ih fn τ ds u (wset b (.deferred none) w)
   | _ => .no 206 1)
 | _ :: _, _, _ => .no 207 0
def ayj (ih : Ih) (fn : Func) (r : R) : CR := match r with
 | .n (.mk τ ds _ w) | .r (.mk τ ds _ w) => lz ih fn τ ds .ret w
 | .p ch (.mk τ ds _ w) => lz ih fn τ ds (.pan ch) w
 | .no c f => .no c f
 | _ => .no 208 0
def ar9 (ih : Ih) (f : FuncId) (vs : List AV) (w : W) (b : Func × Code) : CR := ayj ih b.1 (adf ih b.1 b.2 f vs false .none w)
def af4 (ih : Ih) (f : FuncId) (vs : List AV) (w : W) : CR := match pz f with
 | some b => ar9 ih f vs w b
 | none => .no 209 f
def a48 : AV → Bool
 | .bool _ => true
 | .int _ _ => true
 | .str _ _ => true
 | .nilPtr => true
 | .nilSlice => true
 | .nilMap => true
 | .nilIface => true
 | .nilFunc => true
 | _ => false
def aik : List AV → Bool
 | [] => true
 | v :: l => bc (a48 v) (aik l) false
def ly : List SA → List SA → Bool
 | [], [] => true
 | .mk lt a b r :: l, .mk lt' a' b' r' :: m => bc (ur lt lt') (bc (dk a a') (bc (dk b b') (bc (ur r r') (ly l m) false) false) false) false
 | _, _ => false
def ag1 : List (Nat × Nat) → List (Nat × Nat) → Bool
 | [], [] => true
 | p :: l, q :: m => bc (Nat.beq p.1 q.1) (bc (Nat.beq p.2 q.2) (ag1 l m) false) false
 | _, _ => false
def alv : GV → GV → Bool
 | .str g A, .str g' A' => bc (kr g g') (ly A A') false
 | .sl b es n A, .sl b' es' n' A' => bc (K.beq b b') (bc (Nat.beq es es') (bc (dk n n') (ly A A') false) false) false
 | .ptr b es i o A, .ptr b' es' i' o' A' => bc (K.beq b b') (bc (Nat.beq es es') (bc (dk i i') (bc (Nat.beq o o') (ly A A') false) false) false) false
 | .sr b o n A, .sr b' o' n' A' => bc (K.beq b b') (bc (dk o o') (bc (dk n n') (ly A A') false) false) false
 | .pr b o i A, .pr b' o' i' A' => bc (K.beq b b') (bc (dk o o') (bc (dk i i') (ly A A') false) false) false
 | _, _ => false
def aog : AV → AV → Bool
 | .bool a, .bool b => (match a, b with | true, true => true | false, false => true | _, _ => false)
 | .int k m, .int l n => bc (nb k l) (yk m n) false
 | .str l n, .str l' n' => sEq l n l' n'
 | .nilPtr, .nilPtr => true
 | .ptr b o, .ptr b' o' => bc (K.beq b b') (Nat.beq o o') false
 | .nilSlice, .nilSlice => true
 | .slice b o len cap none, .slice b' o' len' cap' none => bc (K.beq b b') (bc (Nat.beq o o') (bc (Nat.beq len len') (Nat.beq cap cap') false) false) false
 | .slice b o len cap (some e), .slice b' o' len' cap' (some e') => bc (K.beq b b') (bc (Nat.beq o o') (bc (Nat.beq len len') (bc (Nat.beq cap cap') (Nat.beq e e') false) false) false) false
 | .nilMap, .nilMap => true
 | .map b, .map b' => K.beq b b'
 | .nilFunc, .nilFunc => true
 | .nilIface, .nilIface => true
 | .wse b, .wse b' => K.beq b b'
 | .sym k e A, .sym k' e' A' => bc (nb k k') (bc (dk e e') (ly A A') false) false
 | .sx c e A, .sx c' e' A' => bc (Nat.beq c c') (bc (dk e e') (ag1 A A') false) false
 | .gv x, .gv y => alv x y
 | .wsl b k d n, .wsl b' k' d' n' => bc (K.beq b b') (bc (K.beq k k') (bc (Nat.beq d d') (Nat.beq n n') false) false) false
 | .wptr b k i, .wptr b' k' i' => bc (K.beq b b') (bc (K.beq k k') (Nat.beq i i') false) false
 | .esl, .esl => true
 | .top, .top => true
 | _, _ => false
def va (f : AV → AV → Bool) : List AV → List AV → Bool
 | [], [] => true
 | a :: l, b :: m => bc (f a b) (va f l m) false
 | _, _ => false
def a03 : Fn → Fn → Bool
 | .func f, .func g => Nat.beq f g
 | .yield f, .yield g => Nat.beq f g
 | _, _ => false
def adz : Nat → AV → AV → Bool
 | 0, _, _ => false
 | n + 1, a, b => match a, b with
   | .agg l, .agg m => va (adz n) l m
   | .tuple l, .tuple m => va (adz n) l m
   | .iface t x, .iface t' y => bc (Nat.beq t t') (adz n x y) false
   | .func f x y, .func g x' y' => bc (a03 f g) (bc (va (adz n) x x') (va (adz n) y y') false) false
   | a, b => aog a b
def a4a (a b : AV) : Bool := adz 8 a b
inductive LE where
 | mk (g : Nat) (cells : List AV)
abbrev ctA : List AV := [.int .u8 128, .int .u8 191, .int .u8 160, .int .u8 191, .int .u8 128, .int .u8 159, .int .u8 144, .int .u8 191, .int .u8 128, .int .u8 143, .int .u8 0, .int .u8 0, .int .u8 0, .int .u8 0, .int .u8 0, .int .u8 0, .int .u8 0, .int .u8 0, .int .u8 0, .int .u8 0, .int .u8 0, .int .u8 0, .int .u8 0, .int .u8 0, .int .u8 0, .int .u8 0, .int .u8 0, .int .u8 0, .int .u8 0, .int .u8 0, .int .u8 0, .int .u8 0]
abbrev ctB : List AV := [.int .u8 240, .int .u8 240, .int .u8 240, .int .u8 240, .int .u8 240, .int .u8 240, .int .u8 240, .int .u8 240, .int .u8 240, .int .u8 240, .int .u8 240, .int .u8 240, .int .u8 240, .int .u8 240, .int .u8 240, .int .u8 240, .int .u8 240, .int .u8 240, .int .u8 240, .int .u8 240, .int .u8 240, .int .u8 240, .int .u8 240, .int .u8 240, .int .u8 240, .int .u8 240, .int .u8 240, .int .u8 240, .int .u8 240, .int .u8 240, .int .u8 240, .int .u8 240, .int .u8 240, .int .u8 240, .int .u8 240, .int .u8 240, .int .u8 240, .int .u8 240, .int .u8 240, .int .u8 240, .int .u8 240, .int .u8 240, .int .u8 240, .int .u8 240, .int .u8 240, .int .u8 240, .int .u8 240, .int .u8 240, .int .u8 240, .int .u8 240, .int .u8 240, .int .u8 240, .int .u8 240, .int .u8 240, .int .u8 240, .int .u8 240, .int .u8 240, .int .u8 240, .int .u8 240, .int .u8 240, .int .u8 240, .int .u8 240, .int .u8 240, .int .u8 240, .int .u8 240, .int .u8 240, .int .u8 240, .int .u8 240, .int .u8 240, .int .u8 240, .int .u8 240, .int .u8 240, .int .u8 240, .int .u8 240, .int .u8 240, .int .u8 240, .int .u8 240, .int .u8 240, .int .u8 240, .int .u8 240, .int .u8 240, .int .u8 240, .int .u8 240, .int .u8 240, .int .u8 240, .int .u8 240, .int .u8 240, .int .u8 240, .int .u8 240, .int .u8 240, .int .u8 240, .int .u8 240, .int .u8 240, .int .u8 240, .int .u8 240, .int .u8 240, .int .u8 240, .int .u8 240, .int .u8 240, .int .u8 240, .int .u8 240, .int .u8 240, .int .u8 240, .int .u8 240, .int .u8 240, .int .u8 240, .int .u8 240, .int .u8 240, .int .u8 240, .int .u8 240, .int .u8 240, .int .u8 240, .int .u8 240, .int .u8 240, .int .u8 240, .int .u8 240, .int .u8 240, .int .u8 240, .int .u8 240, .int .u8 240, .int .u8 240, .int .u8 240, .int .u8 240, .int .u8 240, .int .u8 240, .int .u8 240, .int .u8 240, .int .u8 240, .int .u8 241, .int .u8 241, .int .u8 241, .int .u8 241, .int .u8 241, .int .u8 241, .int .u8 241, .int .u8 241, .int .u8 241, .int .u8 241, .int .u8 241, .int .u8 241, .int .u8 241, .int .u8 241, .int .u8 241, .int .u8 241, .int .u8 241, .int .u8 241, .int .u8 241, .int .u8 241, .int .u8 241, .int .u8 241, .int .u8 241, .int .u8 241, .int .u8 241, .int .u8 241, .int .u8 241, .int .u8 241, .int .u8 241, .int .u8 241, .int .u8 241, .int .u8 241, .int .u8 241, .int .u8 241, .int .u8 241, .int .u8 241, .int .u8 241, .int .u8 241, .int .u8 241, .int .u8 241, .int .u8 241, .int .u8 241, .int .u8 241, .int .u8 241, .int .u8 241, .int .u8 241, .int .u8 241, .int .u8 241, .int .u8 241, .int .u8 241, .int .u8 241, .int .u8 241, .int .u8 241, .int .u8 241, .int .u8 241, .int .u8 241, .int .u8 241, .int .u8 241, .int .u8 241, .int .u8 241, .int .u8 241, .int .u8 241, .int .u8 241, .int .u8 241, .int .u8 241, .int .u8 241, .int .u8 2, .int .u8 2, .int .u8 2, .int .u8 2, .int .u8 2, .int .u8 2, .int .u8 2, .int .u8 2, .int .u8 2, .int .u8 2, .int .u8 2, .int .u8 2, .int .u8 2, .int .u8 2, .int .u8 2, .int .u8 2, .int .u8 2, .int .u8 2, .int .u8 2, .int .u8 2, .int .u8 2, .int .u8 2, .int .u8 2, .int .u8 2, .int .u8 2, .int .u8 2, .int .u8 2, .int .u8 2, .int .u8 2, .int .u8 2, .int .u8 19, .int .u8 3, .int .u8 3, .int .u8 3, .int .u8 3, .int .u8 3, .int .u8 3, .int .u8 3, .int .u8 3, .int .u8 3, .int .u8 3, .int .u8 3, .int .u8 3, .int .u8 35, .int .u8 3, .int .u8 3, .int .u8 52, .int .u8 4, .int .u8 4, .int .u8 4, .int .u8 68, .int .u8 241, .int .u8 241, .int .u8 241, .int .u8 241, .int .u8 241, .int .u8 241, .int .u8 241, .int .u8 241, .int .u8 241, .int .u8 241, .int .u8 241]
def laidL : List LE := [.mk 1 ctA, .mk 0 ctB, .mk 5 [.int .u64 1, .int .u64 10, .int .u64 100, .int .u64 1000, .int .u64 10000, .int .u64 100000, .int .u64 1000000, .int .u64 10000000, .int .u64 100000000, .int .u64 1000000000, .int .u64 10000000000, .int .u64 100000000000, .int .u64 1000000000000, .int .u64 10000000000000, .int .u64 100000000000000, .int .u64 1000000000000000, .int .u64 10000000000000000, .int .u64 100000000000000000, .int .u64 1000000000000000000, .int .u64 10000000000000000000], .mk 2 [.int .u8 0, .int .u8 0, .int .u8 0, .int .u8 0, .int .u8 0, .int .u8 0, .int .u8 0, .int .u8 0, .int .u8 0, .int .u8 1, .int .u8 1, .int .u8 1, .int .u8 1, .int .u8 1, .int .u8 0, .int .u8 0, .int .u8 0, .int .u8 0, .int .u8 0, .int .u8 0, .int .u8 0, .int .u8 0, .int .u8 0, .int .u8 0, .int .u8 0, .int .u8 0, .int .u8 0, .int .u8 0, .int .u8 0, .int .u8 0, .int .u8 0, .int .u8 0, .int .u8 1, .int .u8 0, .int .u8 0, .int .u8 0, .int .u8 0, .int .u8 0, .int .u8 0, .int .u8 0, .int .u8 0, .int .u8 0, .int .u8 0, .int .u8 0, .int .u8 0, .int .u8 0, .int .u8 0, .int .u8 0, .int .u8 0, .int .u8 0, .int .u8 0, .int .u8 0, .int .u8 0, .int .u8 0, .int .u8 0, .int .u8 0, .int .u8 0, .int .u8 0, .int .u8 0, .int .u8 0, .int .u8 0, .int .u8 0, .int .u8 0, .int .u8 0, .int .u8 0, .int .u8 0, .int .u8 0, .int .u8 0, .int .u8 0, .int .u8 0, .int .u8 0, .int .u8 0, .int .u8 0, .int .u8 0, .int .u8 0, .int .u8 0, .int .u8 0, .int .u8 0, .int .u8 0, .int .u8 0, .int .u8 0, .int .u8 0, .int .u8 0, .int .u8 0, .int .u8 0, .int .u8 0, .int .u8 0, .int .u8 0, .int .u8 0, .int .u8 0, .int .u8 0, .int .u8 0, .int .u8 0, .int .u8 0, .int .u8 0, .int .u8 0, .int .u8 0, .int .u8 0, .int .u8 0, .int .u8 0, .int .u8 0, .int .u8 0, .int .u8 0, .int .u8 0, .int .u8 0, .int .u8 0, .int .u8 0, .int .u8 0, .int .u8 0, .int .u8 0, .int .u8 0, .int .u8 0, .int .u8 0, .int .u8 0, .int .u8 0, .int .u8 0, .int .u8 0, .int .u8 0, .int .u8 0, .int .u8 0, .int .u8 0, .int .u8 0, .int .u8 0, .int .u8 0, .int .u8 0, .int .u8 0, .int .u8 0, .int .u8 0, .int .u8 0, .int .u8 0, .int .u8 0, .int .u8 0, .int .u8 0, .int .u8 0, .int .u8 0, .int .u8 0, .int .u8 0, .int .u8 0, .int .u8 0, .int .u8 0, .int .u8 0, .int .u8 0, .int .u8 0, .int .u8 0, .int .u8 0, .int .u8 0, .int .u8 0, .int .u8 0, .int .u8 0, .int .u8 0, .int .u8 0, .int .u8 0, .int .u8 0, .int .u8 0, .int .u8 0, .int .u8 0, .int .u8 0, .int .u8 0, .int .u8 0, .int .u8 0, .int .u8 0, .int .u8 0, .int .u8 0, .int .u8 0, .int .u8 0, .int .u8 0, .int .u8 0, .int .u8 0, .int .u8 0, .int .u8 0, .int .u8 0, .int .u8 0, .int .u8 0, .int .u8 0, .int .u8 0, .int .u8 0, .int .u8 0, .int .u8 0, .int .u8 0, .int .u8 0, .int .u8 0, .int .u8 0, .int .u8 0, .int .u8 0, .int .u8 0, .int .u8 0, .int .u8 0, .int .u8 0, .int .u8 0, .int .u8 0, .int .u8 0, .int .u8 0, .int .u8 0, .int .u8 0, .int .u8 0, .int .u8 0, .int .u8 0, .int .u8 0, .int .u8 0, .int .u8 0, .int .u8 0, .int .u8 0, .int .u8 0, .int .u8 0, .int .u8 0, .int .u8 0, .int .u8 0, .int .u8 0, .int .u8 0, .int .u8 0, .int .u8 0, .int .u8 0, .int .u8 0, .int .u8 0, .int .u8 0, .int .u8 0, .int .u8 0, .int .u8 0, .int .u8 0, .int .u8 0, .int .u8 0, .int .u8 0, .int .u8 0, .int .u8 0, .int .u8 0, .int .u8 0, .int .u8 0, .int .u8 0, .int .u8 0, .int .u8 0, .int .u8 0, .int .u8 0, .int .u8 0, .int .u8 0, .int .u8 0, .int .u8 0, .int .u8 0, .int .u8 0, .int .u8 0, .int .u8 0, .int .u8 0, .int .u8 0, .int .u8 0, .int .u8 0, .int .u8 0, .int .u8 0, .int .u8 0, .int .u8 0, .int .u8 0, .int .u8 0, .int .u8 0, .int .u8 0, .int .u8 0, .int .u8 0, .int .u8 0, .int .u8 0]]
def nc : List LE → W → Bool
 | [], _ => true
 | .mk g cs :: l, w => (match bz (K.of g) w with
   | .ro t _ _ => bc (Nat.beq t (Nat.succ g)) (nc l w) false
   | _ => false)
def kc : List LE → H4
 | [] => ab9
 | .mk g cs :: l => bn (K.of g) (.ro (Nat.succ g) (bl cs) (kh cs 0 (gx (bl cs)))) (kc l)
def pe : List LE → Bool
 | [] => true
 | .mk g cs :: l => bc (Nat.ble g 255 && aik cs && Nat.ble (bl cs) 65536) (pe l) false
def wS : W := .mk (kc laidL) (K.of 256)
def a7u (o : Option CR) : Ih → FuncId → List AV → W → CR := Option.rec (motive := fun _ => Ih → FuncId → List AV → W → CR) af4 (fun r _ _ _ _ => r) o
def enter (ih : Ih) (f : FuncId) (vs : List AV) (w : W) : CR := a7u (ih.hook f vs w) ih f vs w
def uq (nt : Nat) : List Nat → List AV → F → F
 | t :: ts, v :: vs, τ => uq nt ts vs (aen nt t v τ)
 | _, _, τ => τ
def abo (b : K) (jump : Option Code) (st : LoopState) (v : Bool) (w : W) : CR := match bz b w with
 | .loop _ _ fn nt τ ps x y kd => .ret (.bool v) (wset b (.loop st jump fn nt τ ps x y kd) w)
 | _ => .no 245 0
def adw (b : K) (fn : Nat) (r : R) : CR := match r with
 | .n (.mk _ [] _ w) => abo b none .ready true w
 | .x id (.mk _ [] _ w) => abo b (some (.exit id)) .done false w
 | .r (.mk _ [] _ w) => abo b (some .ret) .done false w
 | .p ch (.mk _ [] _ w) => bc (ad4 fn).isSome (.pan ch w) (.no 244 fn)
 | .no c f => .no c f
 | _ => .no 244 fn
def aho (ih : Ih) (b : K) (fn nt : Nat) (y : Code) (r : R) : CR := match r with
 | .n (.mk τ [] um w) => (match bz b w with
   | .loop .ready pend fn' nt' τ' ps x y' kd => adw b fn (ih y (.mk fn nt false (some b)) (.mk τ [] um (wset b (.loop .busy pend fn' nt' τ' ps x y' kd) w)))
   | _ => .no 242 fn)
 | .no c f => .no c f
 | _ => .no 243 fn
def sy (ih : Ih) (b : K) (vs : List AV) (w : W) : CR := match bz b w with
 | .loop _ _ fn nt τ ps x y _ => bc (Nat.beq (bl ps) (bl vs)) (aho ih b fn nt y (ih x (.mk fn nt false (some b)) (.mk (uq nt ps vs τ) [] .none w))) (.no 240 fn)
 | _ => .no 241 0
def jz (g : Nat × Bool) (all : List Oper) (τ : F) : Option Bool :=
 match (nth all g.1).bind (·.dst) with
 | some d => (match ev d τ with | .bool b => some (b == g.2) | .tuple _ => some false | _ => none)
 | none => none
def a8j (v : AV) (w : W) (dst : Option Nat) (IH : Oh) (ih : Ih) (all : List Oper) (C : Ctx) (τ : F) (ds : List AD) (um : UM) : R :=
 IH ih all C (.mk (md C.nt dst v τ) ds um w)
def crK (r : CR) : Option Nat → Oh → Ih → List Oper → Ctx → F → List AD → UM → R :=
 CR.rec (motive := fun _ => Option Nat → Oh → Ih → List Oper → Ctx → F → List AD → UM → R)
  a8j
  (fun ch w _ _ _ _ _ τ ds um => .p ch (.mk τ ds um w))
  (fun c f _ _ _ _ _ _ _ _ => .no c f) r
def a8h (f : FuncId) (vs : List AV) (w : W) (dst : Option Nat) (IH : Oh) (ih : Ih) (all : List Oper) (C : Ctx) (τ : F) (ds : List AD) (um : UM) : R :=
 crK (enter ih f vs w) dst IH ih all C τ ds um
def bad (b : K) (vs : List AV) (w : W) (dst : Option Nat) (IH : Oh) (ih : Ih) (all : List Oper) (C : Ctx) (τ : F) (ds : List AD) (um : UM) : R :=
 crK (sy ih b vs w) dst IH ih all C τ ds um
def bac (v : AV) (w : W) (dst : Option Nat) (IH : Oh) (ih : Ih) (all : List Oper) (C : Ctx) (τ : F) (ds : List AD) (um : UM) : R := .p [.mk v false] (.mk τ ds um w)
def bab (d : AD) (w : W) (dst : Option Nat) (IH : Oh) (ih : Ih) (all : List Oper) (C : Ctx) (τ : F) (ds : List AD) (um : UM) : R :=
 match C.round with
 | none => IH ih all C (.mk (md C.nt dst ff τ) (d :: ds) um w)
 | some _ => .no 211 C.fn
def ajm (w : W) (dst : Option Nat) (IH : Oh) (ih : Ih) (all : List Oper) (C : Ctx) (τ : F) (ds : List AD) (um : UM) : R :=
 match C.round, C.dfr, um with
 | some _, _, _ => .no 212 C.fn
 | none, true, .pan (.mk v false :: older) => IH ih all C (.mk (md C.nt dst v τ) ds (.pan (.mk v true :: older)) w)
 | none, _, um => IH ih all C (.mk (md C.nt dst .nilIface τ) ds um w)
def orK (r : OR) : Option Nat → Oh → Ih → List Oper → Ctx → F → List AD → UM → R :=
 OR.rec (motive := fun _ => Option Nat → Oh → Ih → List Oper → Ctx → F → List AD → UM → R)
  a8j a8h bad bac bab ajm (fun c _ _ _ _ C _ _ _ => .no c C.fn) r
def oGo (dst : Option Nat) (op : Op) (IH : Oh) (ih : Ih) (all : List Oper) (C : Ctx) (S : FSt) : R :=
 FSt.rec (motive := fun _ => Option Nat → Op → Oh → Ih → List Oper → Ctx → R)
  (fun τ ds um w dst op IH ih all C => orK (gOp op τ w) dst IH ih all C τ ds um) S dst op IH ih all C
def a36 (dst : Option Nat) (IH : Oh) (ih : Ih) (all : List Oper) (C : Ctx) (S : FSt) : R :=
 FSt.rec (motive := fun _ => Option Nat → Oh → Ih → List Oper → Ctx → R)
  (fun τ ds um w dst IH ih all C => IH ih all C (.mk (md C.nt dst ff τ) ds um w)) S dst IH ih all C
def a5k (g : Nat × Bool) (dst : Option Nat) (op : Op) (IH : Oh) (ih : Ih) (all : List Oper) (C : Ctx) (S : FSt) : R :=
 match S with
 | .mk τ _ _ _ => match jz g all τ with
   | some true => oGo dst op IH ih all C S
   | some false => a36 dst IH ih all C S
   | none => .no 213 C.fn
def ag2 (g : Option (Nat × Bool)) : Option Nat → Op → Oh → Ih → List Oper → Ctx → FSt → R :=
 Option.rec (motive := fun _ => Option Nat → Op → Oh → Ih → List Oper → Ctx → FSt → R) oGo a5k g
def a8i (o : Oper) : Oh → Ih → List Oper → Ctx → FSt → R :=
 Oper.rec (motive := fun _ => Oh → Ih → List Oper → Ctx → FSt → R)
  (fun dst op _ _ _ g IH ih all C S => ag2 g dst op IH ih all C S) o
def o6 (l : List Oper) : Oh :=
 List.rec (motive := fun _ => Oh) (fun _ _ _ S => .n S) (fun o _ IH ih all C S => a8i o IH ih all C S) l
def tb (m i : Nat) : Bool := Nat.beq (Nat.land (Nat.shiftRight m i) 1) 1
def adm : Nat := 115792089237316195423570985008687907853269984665640564039457584007913129639936
def fld (M t : Nat) : Nat := Nat.mod (Nat.shiftRight M (Nat.mul t 256)) adm
def aij (M t m : Nat) : Nat := Nat.lor M (Nat.shiftLeft (Nat.mod m adm) (Nat.mul t 256))
def azz (x y : Nat) : Bool := Nat.beq (Nat.land x y) x
def ano : List Edge → Nat → Nat → Nat
 | [], _, s => s
 | e :: es, B, s => ano es B (bc (Region.binds .any e) (Nat.lor (Nat.lor s (Nat.shiftLeft 1 e.on)) (fld B e.on)) s)
def a4j : List Oper → Nat → Nat → Nat
 | [], _, B => B
 | o :: os, j, B => a4j os (Nat.succ j) (aij B j (ano o.after.toList B 0))
def aa0 (ops : Array Oper) : Nat := a4j ops.toList 0 0
def bo (ops : Array Oper) (j : Nat) : Nat := fld (aa0 ops) j
def bu (ops : Array Oper) (i j : Nat) : Bool := tb (bo ops j) i
inductive CL where
 | pu
 | rd
 | fl
 | ef
 | mu
def ui : Op → CL
 | .move _ => .pu
 | .assign _ => .pu
 | .fieldAddr .. => .pu
 | .extract .. => .pu
 | .nilCheck _ => .pu
 | .load .. => .rd
 | .lookup .. => .rd
 | .convert .. => .rd
 | .binOp .. => .rd
 | .unOp .. => .rd
 | .index .. => .rd
 | .indexAddr .. => .rd
 | .field .. => .rd
 | .slice .. => .rd
 | .typeAssert .. => .rd
 | .pick .. => .rd
 | .build .. => .rd
 | .makeInterface .. => .rd
 | .makeFunc .. => .rd
 | .call { callee := .builtin .len, .. } => .rd
 | .call { callee := .builtin .min, .. } => .rd
 | .alloc _ => .fl
 | .box .. => .fl
 | .buildSlice .. => .fl
 | .makeMap .. => .fl
 | _ => .ef
inductive PM where
 | none
 | mk (i d : Nat)
def a6z (t : Nat) (d : Nat) : CL := bc (Nat.beq t d) .mu .ef
def a0r (d : Nat) : Op → CL
 | .insert _ (.tmp t) _ _ => a6z t d
 | op => ui op
def cls (pm : PM) (op : Op) : CL := PM.rec (motive := fun _ => Op → CL) ui (fun _ d => a0r d) pm op
def isP (pm : PM) (j : Nat) : Bool := match pm with
 | .none => false
 | .mk i _ => Nat.beq i j
def noP : PM → Bool
 | .none => true
 | .mk _ _ => false
def a5d : Op → Bool
 | .makeMap _ _ => true
 | _ => false
def aqa : List Oper → Nat → PM
 | [], _ => .none
 | o :: l, i => bc (a5d o.op) (match o.dst with
   | some d => .mk i d
   | none => aqa l (Nat.succ i)) (aqa l (Nat.succ i))
inductive PV where
 | none
 | mk (k : K) (es : List (AV × AV))
def aeb (a b : AV) : Bool := match l7 a b, l7 b a with
 | some false, some false => true
 | _, _ => false
def vo (a : AV) : List (AV × AV) → Bool
 | [] => true
 | e :: l => bc (aeb a e.1) (vo a l) false
def ajq : List (AV × AV) → Bool
 | [] => true
 | e :: l => bc (vo e.1 l) (ajq l) false
def azf : PV → Bool
 | .none => true
 | .mk _ es => ajq es
def anz (k : K) : AV → Bool
 | .map b => K.beq b k
 | _ => false
def ars (p : PV) (w : W) : W := match p with
 | .none => w
 | .mk k es => wset k (.umap es) w
def asu : CL → Bool
 | .ef => true
 | _ => false
def a7z : CL → Bool
 | .fl => true
 | _ => false
def aq7 (p : Nat → Bool) : Nat → Bool
 | 0 => true
 | n + 1 => bc (p n) (aq7 p n) false
def l8 (pm : PM) : List Oper → Nat
 | [] => 0
 | o :: l => bc (a7z (cls pm o.op)) (l8 pm l + 1) (l8 pm l)
def yv (ops : Array Oper) : Nat := bl ops.toList
def u4 (pm : PM) : List Oper → Nat → List Nat
 | [], _ => []
 | o :: l, j => bc (asu (cls pm o.op)) (j :: u4 pm l (Nat.succ j)) (u4 pm l (Nat.succ j))
def ad2 (pm : PM) (ops : Array Oper) : List Nat := u4 pm ops.toList 0
def aay (p : Nat → Bool) : List Nat → Bool
 | [] => true
 | x :: l => bc (p x) (aay p l) false
def aac (pm : PM) (ops : Array Oper) (j e : Nat) : Bool :=
 aay (fun x => bc (bc (bu ops x j) (Nat.blt x e) true) (bc (Nat.blt x e) (xv (bu ops j x)) true) false) (ad2 pm ops)
def pg (pm : PM) (ops : Array Oper) (j : Nat) : Bool :=
 xv (aay (fun x => bc (bc (Nat.blt x j) (bu ops x j) true) (bc (Nat.blt j x) (bu ops j x) true) false) (ad2 pm ops))
def y7 : List Operand → List Nat
 | [] => []
 | .tmp t :: l => t :: y7 l
 | _ :: l => y7 l
def lx (all : List Oper) (o : Oper) : List Nat :=
 y7 o.op.operands.toList ++ (o.dst.toList ++ (match o.guard with
  | some g => ((nth all g.1).bind (·.dst)).toList
  | none => []))
def wb (j : Nat) : List Edge → Bool
 | [] => true
 | e :: l => bc (bc (Region.binds .any e) (Nat.blt e.on j) true) (wb j l) false
def amu (Wm b : Nat) : List Nat → Bool
 | [] => true
 | t :: l => bc (azz (fld Wm t) b) (amu Wm b l) false
def a68 (Rm b : Nat) : Option Nat → Bool
 | none => true
 | some d => azz (fld Rm d) b
def a6c (Wm j : Nat) : Option Nat → Nat
 | none => Wm
 | some d => aij Wm d (Nat.shiftLeft 1 j)
def a4g (j : Nat) : List Nat → Nat → Nat
 | [], Rm => Rm
 | t :: l, Rm => a4g j l (aij Rm t (Nat.shiftLeft 1 j))
def ank (pm : PM) (all : List Oper) (B : Nat) : List Oper → Nat → Nat → Nat → Nat → Bool
 | [], _, _, _, _ => true
 | o :: os, j, Wm, Rm, Em =>
   bc (wb j o.after.toList) (bc (amu Wm (fld B j) (lx all o)) (bc (a68 Rm (fld B j) o.dst) (bc (bc (asu (cls pm o.op)) (azz Em (fld B j)) true)
    (ank pm all B os (Nat.succ j) (a6c Wm j o.dst) (a4g j (lx all o) Rm) (bc (asu (cls pm o.op)) (Nat.lor Em (Nat.shiftLeft 1 j)) Em)) false) false) false) false
def u3 (pm : PM) (ops : Array Oper) : Bool := bc (Nat.ble (yv ops) 256) (ank pm ops.toList (aa0 ops) ops.toList 0 0 0 0) false
def dummy : Oper := { dst := none, op := .move (.func 0), type := 0, pos := "", after := #[], guard := none }
def ke (B p : Nat) : List Oper → Nat → List Oper
 | [], _ => []
 | o :: l, j => bc (tb (fld B j) p) dummy o :: ke B p l (Nat.succ j)
def cv (ops : Array Oper) (p : Nat) : Array Oper := (ke (aa0 ops) p ops.toList 0).toArray
def ab8 (ops : Array Oper) (p : Nat) (o : Oper) : Bool := match o.guard with
 | some g => xv (bu ops p g.1)
 | none => true
def a39 (ops opsT : Array Oper) (p j : Nat) : Bool := bc (bu ops p j) true (bc (Nat.beq (bo ops j) (bo opsT j)) (bc (bc (pg .none opsT j) (pg .none ops j) true) (match nth ops.toList j with
 | some o => ab8 ops p o
 | none => true) false) false)
def ay9 (ops opsT : Array Oper) (p : Nat) : Bool := bc (u3 .none opsT) (bc (aq7 (fun j => xv (bu ops p j)) (Nat.succ p)) (aq7 (a39 ops opsT p) (yv ops)) false) false
def u1 (nt : Nat) : List Oper → F → F
 | [], τ => τ
 | o :: l, τ => u1 nt l (md nt o.dst .top τ)
inductive PF where
 | mk (i : Nat) (k : K) (o : AObj)
inductive RC where
 | mk (i : Nat) (op : Op) (τ : F) (v : AV)
inductive DS where
 | mk (τ : F) (w : W) (fk : K) (pend : List PF) (hist : List (Nat × W)) (recs : List RC) (pv : PV)
inductive DX where
 | ok (s : DS)
 | pan (ch : List PE) (w : W) (p : Nat) (s : DS)
 | no (c f : Nat)
def cm (m : Nat) : List PF → W → W
 | [], w => w
 | .mk i k o :: l, w => bc (tb m i) (wset k o (cm m l w)) (cm m l w)
def rp (m : Nat) : List PF → List PF
 | [] => []
 | .mk i k o :: l => bc (tb m i) (rp m l) (.mk i k o :: rp m l)
def abd : List PF → W → W
 | [], w => w
 | .mk _ k o :: l, w => wset k o (abd l w)
def hOf : W → H4 | .mk h _ => h
def arq (o : Oper) (nt fn : Nat) : DS → DX
 | .mk τ w fk pend hist recs pv => match gD o.op τ w with
   | .val v _ => .ok (.mk (md nt o.dst v τ) w fk pend hist recs pv)
   | .no c => .no c fn
   | _ => .no 230 fn
def afx (o : AObj) (off : Nat) : Option AV := match o with
 | .cells _ s _ _ _ c => bc (Nat.blt off s) (some (ou c off)) none
 | _ => none
def agj (pm : PM) (ops : Array Oper) (m : Nat) (k : K) (off : Nat) : List PF → Option AV
 | [] => none
 | .mk i k' o :: l => bc (K.beq k k' && (tb m i && aay (fun x => xv (tb (bo ops x) i)) (ad2 pm ops))) (afx o off) (agj pm ops m k off l)
def aca (pm : PM) (ops : Array Oper) (j : Nat) (op : Op) (τ : F) (pend : List PF) : Option AV := match op with
 | .load t a => (match mt t, evX a τ with
   | some none, .ptr k off => agj pm ops (bo ops j) k off pend
   | _, _ => none)
 | _ => none
def art (pm : PM) (ops : Array Oper) (i : Nat) (o : Oper) (nt fn : Nat) : DS → DX
 | .mk τ w fk pend hist recs pv => match gD o.op τ w with
   | .val v _ => .ok (.mk (md nt o.dst v τ) w fk pend hist (bc (pg pm ops i) (.mk i o.op τ v :: recs) recs) pv)
   | .no c => (match aca pm ops i o.op τ pend with
     | some v => .ok (.mk (md nt o.dst v τ) w fk pend hist recs pv)
     | none => .no c fn)
   | _ => .no 231 fn
def asv : AObj → Bool
 | .map [] => true
 | _ => false
def ak5 (pm : PM) (i : Nat) (o : Oper) (nt fn : Nat) : DS → DX
 | .mk τ w fk pend hist recs pv => match gD o.op τ (.mk (hOf w) fk) with
   | .val v (.mk h' _) => bc (isP pm i)
      (bc (asv (ac fk h')) (.ok (.mk (md nt o.dst v τ) w fk.succ pend hist recs (.mk fk []))) (.no 239 fn))
      (.ok (.mk (md nt o.dst v τ) w fk.succ (.mk i fk (ac fk h') :: pend) hist recs pv))
   | .no c => .no c fn
   | _ => .no 232 fn
def dMu (o : Oper) (nt fn : Nat) : DS → DX
 | .mk τ w fk pend hist recs (.mk k es) => (match o.op, o.guard with
   | .insert t m x y, none => bc (kx t && aeu t (evX x τ) && anz k (evX m τ))
      (.ok (.mk (md nt o.dst ff τ) w fk pend hist recs (.mk k (es ++ [(evX x τ, evX y τ)])))) (.no 229 fn)
   | _, _ => .no 228 fn)
 | _ => .no 227 fn
def a0v (pm : PM) (ih : Ih) (ops : Array Oper) (i : Nat) (o : Oper) (nt fn : Nat) : DS → DX
 | .mk τ w fk pend hist recs pv => match gD o.op τ (cm (bo ops i) pend w) with
   | .val v w' => .ok (.mk (md nt o.dst v τ) w' fk (rp (bo ops i) pend) ((i, w) :: hist) recs pv)
   | .call f vs w' => (match enter ih f vs w' with
     | .ret v w'' => .ok (.mk (md nt o.dst v τ) w'' fk (rp (bo ops i) pend) ((i, w) :: hist) recs pv)
     | .no c f => .no c f
     | .pan ch w'' => bc (noP pm) (.pan ch w'' i (.mk (md nt o.dst .top τ) (cm (bo ops i) pend w) fk (rp (bo ops i) pend) ((i, w) :: hist) recs pv)) (.no 233 fn))
   | .no c => .no c fn
   | _ => .no 234 fn
def dGo (pm : PM) (ih : Ih) (ops : Array Oper) (i : Nat) (o : Oper) (nt fn : Nat) (s : DS) : DX := match cls pm o.op with
 | .pu => arq o nt fn s
 | .rd => art pm ops i o nt fn s
 | .fl => ak5 pm i o nt fn s
 | .ef => a0v pm ih ops i o nt fn s
 | .mu => dMu o nt fn s
def arv (pm : PM) (ops : Array Oper) (i : Nat) (o : Oper) (nt : Nat) : DS → DX
 | .mk τ w fk pend hist recs pv => match cls pm o.op with
   | .ef => .ok (.mk (md nt o.dst ff τ) (cm (bo ops i) pend w) fk (rp (bo ops i) pend) ((i, w) :: hist) recs pv)
   | .mu => .no 226 0
   | _ => .ok (.mk (md nt o.dst ff τ) w fk pend hist recs pv)
def DS.τ : DS → F | .mk τ .. => τ
def DS.w : DS → W | .mk _ w .. => w
def DS.fk : DS → K | .mk _ _ fk .. => fk
def DS.pend : DS → List PF | .mk _ _ _ p .. => p
def DS.hist : DS → List (Nat × W) | .mk _ _ _ _ h .. => h
def DS.recs : DS → List RC | .mk _ _ _ _ _ r _ => r
def DS.pv : DS → PV | .mk _ _ _ _ _ _ p => p
def n0 (pm : PM) (ih : Ih) (ops : Array Oper) (i : Nat) (o : Oper) (nt fn : Nat) (s : DS) : DX := match o.guard with
 | none => dGo pm ih ops i o nt fn s
 | some g => match jz g ops.toList s.τ with
   | some true => dGo pm ih ops i o nt fn s
   | some false => arv pm ops i o nt s
   | none => .no 235 fn
def arp (r : DX) (k : DS → DX) : DX := match r with
 | .ok s => k s
 | .pan ch w p s => .pan ch w p s
 | .no c f => .no c f
def abf (pm : PM) (ih : Ih) (ops : Array Oper) (nt fn : Nat) : List Oper → Nat → DS → DX
 | [], _, s => .ok s
 | o :: l, i, s => arp (n0 pm ih ops i o nt fn s) (abf pm ih ops nt fn l (i + 1))
def azl (op : Op) (τ : F) (v : AV) (w : W) : Bool := match gD op τ w with
 | .val v' _ => a4a v v'
 | _ => false
def aru (pm : PM) (ops : Array Oper) : RC → List (Nat × W) → Bool
 | _, [] => true
 | .mk i op τ v, (e, w) :: l => bc (bc (aac pm ops i e) (azl op τ v w) true) (aru pm ops (.mk i op τ v) l) false
def ul (pm : PM) (ops : Array Oper) : List RC → List (Nat × W) → Bool
 | [], _ => true
 | r :: l, h => bc (aru pm ops r h) (ul pm ops l h) false
def ah9 (ops opsT : Array Oper) (fn nt : Nat) (τ0 : F) (ds : List AD) (um : UM) (ch : List PE) (w2 : W) : DX → R
 | .ok (.mk _ w _ _ hist recs _) => bc (ul .none opsT recs ((yv ops, w) :: hist)) (.p ch (.mk (u1 nt ops.toList τ0) ds um w2)) (.no 236 fn)
 | .pan _ _ _ _ => .no 225 fn
 | .no c f => .no c f
def anj (ih : Ih) (ops opsT : Array Oper) (fn nt : Nat) (τ0 : F) (ds : List AD) (um : UM) (ch : List PE) (w2 : W) (p : Nat) (s : DS) : R :=
 bc (ay9 ops opsT p) (ah9 ops opsT fn nt τ0 ds um ch w2 (abf .none ih opsT nt fn (opsT.toList.drop (Nat.succ p)) (Nat.succ p) s)) (.no 233 fn)
def a4u (pm : PM) (ih : Ih) (ops : Array Oper) (fn nt : Nat) (τ0 : F) (ds : List AD) (um : UM) : DX → R
 | .ok (.mk τ w _ pend hist recs pv) => bc (ul pm ops recs ((yv ops, w) :: hist) && azf pv) (.n (.mk τ ds um (ars pv (abd pend w)))) (.no 236 fn)
 | .pan ch w2 p s => anj ih ops (cv ops p) fn nt τ0 ds um ch w2 p s
 | .no c f => .no c f
def ajw : Nat → K → Option K
 | 0, k => some k
 | n + 1, k => bc k.isMax none (ajw n k.succ)
def abh (pm : PM) (ih : Ih) (ops : Array Oper) (nt fn : Nat) (τ : F) (h : H4) (nx : K) (ds : List AD) (um : UM) : Option K → R
 | some nx' => a4u pm ih ops fn nt τ ds um (abf pm ih ops nt fn ops.toList 0 (.mk τ (.mk h nx') nx [] [] [] .none))
 | none => .no 237 fn
def aa2 (pm : PM) (ops : Array Oper) (ih : Ih) (C : Ctx) : FSt → R
 | .mk τ ds um (.mk h nx) => bc (u3 pm ops) (abh pm ih ops C.nt C.fn τ h nx ds um (ajw (l8 pm ops.toList) nx)) (.no 238 C.fn)
def anf (_ : Nat) (ops : Array Oper) (ih : Ih) (C : Ctx) (S : FSt) : R := bc (u3 .none ops) (aa2 .none ops ih C S) (aa2 (aqa ops.toList 0) ops ih C S)
def a4o (_ : Nat) (ops : Array Oper) (ih : Ih) (C : Ctx) (S : FSt) : R := o6 ops.toList ih ops.toList C S
def a0m (id : Nat) (ops : Array Oper) (draw : Bool) : Ih → Ctx → FSt → R := Bool.rec (motive := fun _ => Nat → Array Oper → Ih → Ctx → FSt → R) a4o anf draw id ops
def ada (r : R) : Ih → Code → Ctx → R := R.rec (motive := fun _ => Ih → Code → Ctx → R)
 (fun S ih b C => ih b C S) (fun id S _ _ _ => .x id S) (fun S _ _ _ => .r S) (fun ch S _ _ _ => .p ch S) (fun c f _ _ _ => .no c f) r
abbrev Rh := Ih → Ctx → FSt → R
def a9u (a b : Code) (_ _ : Rh) (ih : Ih) (C : Ctx) (S : FSt) : R := ada (ih a C S) ih b C
def ark (v : AV) (x y : Code) (ih : Ih) (C : Ctx) (S : FSt) : R := match v with
 | .bool b => ih (bc b x y) C S
 | _ => .no 214 C.fn
def FSt.τ (S : FSt) : F := FSt.rec (motive := fun _ => F) (fun τ _ _ _ => τ) S
def a6x (c : Operand) (x y : Code) (_ _ : Rh) (ih : Ih) (C : Ctx) (S : FSt) : R := ark (evX c S.τ) x y ih C S
def akw (r : R) : Nat → R := R.rec (motive := fun _ => Nat → R)
 (fun S _ => .n S) (fun id' S id => bc (Nat.beq id' id) (.n S) (.x id' S)) (fun S _ => .r S) (fun ch S _ => .p ch S) (fun c f _ => .no c f) r
def a4n (id : Nat) (b : Code) (_ : Rh) (ih : Ih) (C : Ctx) (S : FSt) : R := akw (ih b C S) id
def xy (b : Code) (ih : Ih) (C : Ctx) (S : FSt) : R := ada (ih b C S) ih (.loop b) C
def an5 (o : Option R) : Code → Ih → Ctx → FSt → R := Option.rec (motive := fun _ => Code → Ih → Ctx → FSt → R) xy (fun r _ _ _ _ => r) o
def a6y (b : Code) (_ : Rh) (ih : Ih) (C : Ctx) (S : FSt) : R := an5 (ih.lp C b S) b ih C S
def ast : LoopState → Bool
 | .busy => true
 | _ => false
def azh (τ : F) (ds : List AD) (um : UM) (kl : K) (r : CR) : R := match r with
 | .ret _ w => (match bz kl w with
   | .loop st pend fn nt τ' ps x y kd => bc (ast st) (.no 248 fn) (match pend with
     | none => .n (.mk τ ds um (wset kl (.loop .exhausted pend fn nt τ' ps x y kd) w))
     | some (.exit id) => .x id (.mk τ ds um (wset kl (.loop .exhausted pend fn nt τ' ps x y kd) w))
     | some .ret => .r (.mk τ ds um (wset kl (.loop .exhausted pend fn nt τ' ps x y kd) w))
     | _ => .no 249 fn)
   | _ => .no 250 0)
 | .pan ch w => .p ch (.mk τ ds um w)
 | .no c f => .no c f
def ac1 (ih : Ih) (fn : Nat) (τ : F) (ds : List AD) (um : UM) (kl : K) (r : OR) : R := match r with
 | .call g vs w => azh τ ds um kl (enter ih g vs w)
 | _ => .no 247 fn
def afv (f : Operand) (ps : Array Tmp) (x y : Code) (ih : Ih) (C : Ctx) (S : FSt) : R := match S, C.round with
 | .mk τ ds um (.mk h nx), none => bc nx.isMax (.no 246 0) (bc nx.succ.isMax (.no 246 1)
    (ac1 ih C.fn τ (.coll nx :: ds) um nx.succ (zd (evX f τ) [.func (.yield nx.succ.num) [] []] (.mk (bn nx.succ (.loop .ready none C.fn C.nt τ ps.toList x y nx) (bn nx (.deferred (some [])) h)) nx.succ.succ))))
 | _, _ => .no 246 2
def a4b (ih : Ih) (c : Code) : Ctx → FSt → R := Code.rec (motive := fun _ => Rh)
 (fun _ _ S => .n S) a0m a9u a6x a4n a6y (fun f ps x y _ _ => afv f ps x y) (fun id _ _ S => .x id S)
 (fun _ _ _ C _ => .no 216 C.fn) (fun _ _ _ S => .n S) (fun _ _ C _ => .no 217 C.fn) (fun _ _ S => .r S) (fun _ _ C _ => .no 218 C.fn) c ih
abbrev akt := FuncId → List AV → W → Option CR
abbrev aav := Ctx → Code → FSt → Option R
def a3c (_ : Ctx) (_ : Code) (_ : FSt) : Option R := none
def baj (H : akt) (L : aav) (n : Nat) : Code → Ctx → FSt → R := Nat.rec (motive := fun _ => Code → Ctx → FSt → R) (fun _ _ _ => .no 219 0) (fun _ r => a4b (Ih.mk H r L)) n
def ajx (H : akt) (L : aav) (n : Nat) : Ih := Ih.mk H (baj H L n) L
def run (H : akt) (n : Nat) : Ih := ajx H a3c n
def ay1 (_ : FuncId) (_ : List AV) (_ : W) : Option CR := none
inductive HE where
 | mk (f : FuncId) (vs : List AV) (v : AV)
def w0 : W := .mk ab9 (K.of 256)
end
end Go.Ev
