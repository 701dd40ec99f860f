import Derived.Test.YtkfdioikigponaaGreatDoorEvB
set_option linter.all false
namespace Go.Ev
noncomputable section
/- The hot operations once more, in a form that the kernel runs with little copying. Each is equal to the one of the same name without the letter f. -/
def lapp {α : Type} (l : List α) : List α → List α := List.rec (motive := fun _ => List α → List α) (fun m => m) (fun x _ ih m => x :: ih m) l
def xsAll (l : List Operand) : F → List AV := List.rec (motive := fun _ => F → List AV) (fun _ => []) (fun x _ ih τ => evX x τ :: ih τ) l
def no (c : Nat) (_ : W) : OR := .no c
def fObjGet (x : AObj) : Nat → W → OR := AObj.rec (motive := fun _ => Nat → W → OR) (fun _ => no 3) (fun _ size _ _ _ c i w => bc (Nat.blt i size) (.val (cget c i) w) (.no 3)) (fun _ size c i w => bc (Nat.blt i size) (.val (cget c i) w) (.no 3)) (fun _ => (fun _ => no 3)) (fun _ _ _ => (fun _ => no 3)) (fun _ _ _ _ _ _ _ _ _ => (fun _ => no 3)) (fun _ => (fun _ => no 3)) (fun _ _ => (fun _ => no 3)) (fun _ => (fun _ => no 3)) (fun _ _ _ _ _ => (fun _ => no 3)) (fun _ => (fun _ => no 3)) x
def fLdPtr (b : K) (off : Nat) (w : W) : OR := fObjGet (wget b w) off w
def fLdWin (b kb : K) (i : Nat) (w : W) : OR := ldWin b kb i w
def fLdOne (a : AV) : W → OR := AV.rec (motive_1 := fun _ => W → OR) (motive_2 := fun _ => PUnit) (fun _ => (no 4)) (fun _ _ => (no 4)) (fun _ _ => (no 4)) (no 4) fLdPtr (no 4) (fun _ _ _ _ _ => (no 4)) (no 4) (fun _ => (no 4)) (fun _ _ _ _ _ => (no 4)) (no 4) (fun _ _ _ => (no 4)) (no 4) (fun _ _ => (no 4)) (fun _ _ => (no 4)) (no 4) (fun _ _ _ _ => (no 4)) (fun _ => (no 4)) fLdWin (fun _ _ _ => (no 4)) (fun _ _ _ => (no 4)) (fun _ => (no 4)) (no 4) ⟨⟩ (fun _ _ _ _ => ⟨⟩) a
def fObjList (x : AObj) : Nat → Nat → W → OR := AObj.rec (motive := fun _ => Nat → Nat → W → OR) (fun _ _ => no 5) (fun _ size _ _ _ c i n w => bc (Nat.ble (i + n) size) (.val (.agg (clist c n i)) w) (.no 5)) (fun _ size c i n w => bc (Nat.ble (i + n) size) (.val (.agg (clist c n i)) w) (.no 5)) (fun _ => (fun _ _ => no 5)) (fun _ _ _ => (fun _ _ => no 5)) (fun _ _ _ _ _ _ _ _ _ => (fun _ _ => no 5)) (fun _ => (fun _ _ => no 5)) (fun _ _ => (fun _ _ => no 5)) (fun _ => (fun _ _ => no 5)) (fun _ _ _ _ _ => (fun _ _ => no 5)) (fun _ => (fun _ _ => no 5)) x
def fLdPtrs (b : K) (off : Nat) (n : Nat) (w : W) : OR := fObjList (wget b w) off n w
def fLdMany (a : AV) : Nat → W → OR := AV.rec (motive_1 := fun _ => Nat → W → OR) (motive_2 := fun _ => PUnit) (fun _ => (fun _ => no 6)) (fun _ _ => (fun _ => no 6)) (fun _ _ => (fun _ => no 6)) (fun _ => no 6) fLdPtrs (fun _ => no 6) (fun _ _ _ _ _ => (fun _ => no 6)) (fun _ => no 6) (fun _ => (fun _ => no 6)) (fun _ _ _ _ _ => (fun _ => no 6)) (fun _ => no 6) (fun _ _ _ => (fun _ => no 6)) (fun _ => no 6) (fun _ _ => (fun _ => no 6)) (fun _ _ => (fun _ => no 6)) (fun _ => no 6) (fun _ _ _ _ => (fun _ => no 6)) (fun _ => (fun _ => no 6)) (fun _ _ _ => (fun _ => no 6)) (fun _ _ _ => (fun _ => no 6)) (fun _ _ _ => (fun _ => no 6)) (fun _ => (fun _ => no 6)) (fun _ => no 6) ⟨⟩ (fun _ _ _ _ => ⟨⟩) a
def fLdSome (o : Option Nat) : AV → W → OR := Option.rec (motive := fun _ => AV → W → OR) fLdOne (fun n a => fLdMany a n) o
def fLoad (t : TypeId) : AV → W → OR := Option.rec (motive := fun _ => AV → W → OR) (fun _ => no 9) fLdSome (aggOf t)
def fObjSet (x : AObj) : Nat → List AV → K → W → OR := AObj.rec (motive := fun _ => Nat → List AV → K → W → OR) (fun _ _ _ => no 7) (fun t size ext fl fh c i l b w => bc (allOne l) (bc (Nat.ble (i + llen l) size) (bc (unfrozen fl fh i (llen l)) (.val undefA (wset b (.cells t size ext fl fh (cfill l i c)) w)) (.no 7)) (.no 7)) (.no 7)) (fun _ _ _ => (fun _ _ _ => no 7)) (fun _ => (fun _ _ _ => no 7)) (fun _ _ _ => (fun _ _ _ => no 7)) (fun _ _ _ _ _ _ _ _ _ => (fun _ _ _ => no 7)) (fun _ => (fun _ _ _ => no 7)) (fun _ _ => (fun _ _ _ => no 7)) (fun _ => (fun _ _ _ => no 7)) (fun _ _ _ _ _ => (fun _ _ _ => no 7)) (fun _ => (fun _ _ _ => no 7)) x
def fStPtr (b : K) (off : Nat) (l : List AV) (w : W) : OR := fObjSet (wget b w) off l b w
def fStMany (a : AV) : List AV → W → OR := AV.rec (motive_1 := fun _ => List AV → W → OR) (motive_2 := fun _ => PUnit) (fun _ => (fun _ => no 8)) (fun _ _ => (fun _ => no 8)) (fun _ _ => (fun _ => no 8)) (fun _ => no 8) fStPtr (fun _ => no 8) (fun _ _ _ _ _ => (fun _ => no 8)) (fun _ => no 8) (fun _ => (fun _ => no 8)) (fun _ _ _ _ _ => (fun _ => no 8)) (fun _ => no 8) (fun _ _ _ => (fun _ => no 8)) (fun _ => no 8) (fun _ _ => (fun _ => no 8)) (fun _ _ => (fun _ => no 8)) (fun _ => no 8) (fun _ _ _ _ => (fun _ => no 8)) (fun _ => (fun _ => no 8)) (fun _ _ _ => (fun _ => no 8)) (fun _ _ _ => (fun _ => no 8)) (fun _ _ _ => (fun _ => no 8)) (fun _ => (fun _ => no 8)) (fun _ => no 8) ⟨⟩ (fun _ _ _ _ => ⟨⟩) a
def fStOne (a : AV) : AV → W → OR := AV.rec (motive_1 := fun _ => AV → W → OR) (motive_2 := fun _ => PUnit) (fun b  => (fun v a => fStMany a [v]) (.bool b)) (fun k n  => (fun v a => fStMany a [v]) (.int k n)) (fun l n  => (fun v a => fStMany a [v]) (.str l n)) ((fun v a => fStMany a [v]) AV.nilPtr) (fun b o  => (fun v a => fStMany a [v]) (.ptr b o)) ((fun v a => fStMany a [v]) AV.nilSlice) (fun b o l c e  => (fun v a => fStMany a [v]) (.slice b o l c e)) ((fun v a => fStMany a [v]) AV.nilMap) (fun b  => (fun v a => fStMany a [v]) (.map b)) (fun f x y _ _ => (fun v a => fStMany a [v]) (.func f x y)) ((fun v a => fStMany a [v]) AV.nilFunc) (fun t v _ => (fun v a => fStMany a [v]) (.iface t v)) ((fun v a => fStMany a [v]) AV.nilIface) (fun x _ => (fun _ _ => no 10) x) (fun x _ => (fun _ _ => no 10) x) ((fun v a => fStMany a [v]) AV.esl) (fun b kb d n  => (fun v a => fStMany a [v]) (.wsl b kb d n)) (fun b  => (fun v a => fStMany a [v]) (.wse b)) (fun b kb i  => (fun v a => fStMany a [v]) (.wptr b kb i)) (fun k e A  => (fun v a => fStMany a [v]) (.sym k e A)) (fun c e A  => (fun v a => fStMany a [v]) (.sx c e A)) (fun x  => (fun v a => fStMany a [v]) (.gv x)) (fun _ => no 10) ⟨⟩ (fun _ _ _ _ => ⟨⟩) a
def fStAgg (a : AV) : Nat → AV → W → OR := AV.rec (motive_1 := fun _ => Nat → AV → W → OR) (motive_2 := fun _ => PUnit) (fun _ => (fun _ _ => no 12)) (fun _ _ => (fun _ _ => no 12)) (fun _ _ => (fun _ _ => no 12)) (fun _ _ => no 12) (fun _ _ => (fun _ _ => no 12)) (fun _ _ => no 12) (fun _ _ _ _ _ => (fun _ _ => no 12)) (fun _ _ => no 12) (fun _ => (fun _ _ => no 12)) (fun _ _ _ _ _ => (fun _ _ => no 12)) (fun _ _ => no 12) (fun _ _ _ => (fun _ _ => no 12)) (fun _ _ => no 12) (fun x _ => (fun l n a w => bc (Nat.beq (llen l) n) (fStMany a l w) (.no 11)) x) (fun _ _ => (fun _ _ => no 12)) (fun _ _ => no 12) (fun _ _ _ _ => (fun _ _ => no 12)) (fun _ => (fun _ _ => no 12)) (fun _ _ _ => (fun _ _ => no 12)) (fun _ _ _ => (fun _ _ => no 12)) (fun _ _ _ => (fun _ _ => no 12)) (fun _ => (fun _ _ => no 12)) (fun _ _ => no 12) ⟨⟩ (fun _ _ _ _ => ⟨⟩) a
def fStSome (o : Option Nat) : AV → AV → W → OR := Option.rec (motive := fun _ => AV → AV → W → OR) (fun a v => fStOne v a) (fun n a v => fStAgg v n a) o
def fStore (t : TypeId) : AV → AV → W → OR := Option.rec (motive := fun _ => AV → AV → W → OR) (fun _ _ => no 13) fStSome (aggOf t)
def iposLe (m : Nat) (b : Int) : Bool := Int.rec (motive := fun _ => Nat → Bool) (fun n m => Nat.ble m n) (fun _ _ => false) b m
def inegLe (m : Nat) (b : Int) : Bool := Int.rec (motive := fun _ => Nat → Bool) (fun _ _ => true) (fun n m => Nat.ble n m) b m
def fleb (a : Int) : Int → Bool := Int.rec (motive := fun _ => Int → Bool) iposLe inegLe a
def iposEq (m : Nat) (b : Int) : Bool := Int.rec (motive := fun _ => Nat → Bool) (fun n m => Nat.beq m n) (fun _ _ => false) b m
def inegEq (m : Nat) (b : Int) : Bool := Int.rec (motive := fun _ => Nat → Bool) (fun _ _ => false) (fun n m => Nat.beq m n) b m
def feqb (a : Int) : Int → Bool := Int.rec (motive := fun _ => Int → Bool) iposEq inegEq a
def knum (k : IntKind) : Nat := IntKind.rec (motive := fun _ => Nat) 0 1 2 3 4 5 6 7 k
def fkeq (k l : IntKind) : Bool := Nat.beq (knum k) (knum l)
def ftop (k : IntKind) : Nat := IntKind.rec (motive := fun _ => Nat) 127 32767 2147483647 9223372036854775807 255 65535 4294967295 18446744073709551615 k
def fsgn (k : IntKind) : Bool := IntKind.rec (motive := fun _ => Bool) true true true true false false false false k
def fwrapP (m : Nat) (k : IntKind) : Int := bc (Nat.ble m (ftop k)) (.ofNat m) (k.wrap (.ofNat m))
def fwrapN (m : Nat) (k : IntKind) : Int := bc (fsgn k) (bc (Nat.ble m (ftop k)) (.negSucc m) (k.wrap (.negSucc m))) (k.wrap (.negSucc m))
def fwrap (k : IntKind) (n : Int) : Int := Int.rec (motive := fun _ => IntKind → Int) fwrapP fwrapN n k
/- sums, as literals -/
def subNN (m n : Nat) : Int := bc (Nat.ble n m) (.ofNat (m - n)) (.negSucc (n - m - 1))
def addP (m : Nat) (b : Int) : Int := Int.rec (motive := fun _ => Nat → Int) (fun n m => .ofNat (m + n)) (fun n m => subNN m (n + 1)) b m
def addN (m : Nat) (b : Int) : Int := Int.rec (motive := fun _ => Nat → Int) (fun n m => subNN n (m + 1)) (fun n m => .negSucc (m + n + 1)) b m
def fadd (a : Int) : Int → Int := Int.rec (motive := fun _ => Int → Int) addP addN a
def negP (m : Nat) : Int := bc (Nat.beq m 0) (.ofNat 0) (.negSucc (m - 1))
def fneg (a : Int) : Int := Int.rec (motive := fun _ => Int) negP (fun m => .ofNat (m + 1)) a
def iAdd (k : IntKind) (a b : Int) (w : W) : OR := .val (.int k (fwrap k (fadd a b))) w
def iSub (k : IntKind) (a b : Int) (w : W) : OR := .val (.int k (fwrap k (fadd a (fneg b)))) w
def iSlow (op : BinOp) (k : IntKind) (a b : Int) (w : W) : OR := retO (intBin op k a b) w 21
def iEql (_ : IntKind) (a b : Int) (w : W) : OR := .val (.bool (feqb a b)) w
def bnot (b : Bool) : Bool := Bool.rec (motive := fun _ => Bool) true false b
def iNeq (_ : IntKind) (a b : Int) (w : W) : OR := .val (.bool (bnot (feqb a b))) w
def iLss (_ : IntKind) (a b : Int) (w : W) : OR := .val (.bool (bnot (fleb b a))) w
def iLeq (_ : IntKind) (a b : Int) (w : W) : OR := .val (.bool (fleb a b)) w
def iGtr (_ : IntKind) (a b : Int) (w : W) : OR := .val (.bool (bnot (fleb a b))) w
def iGeq (_ : IntKind) (a b : Int) (w : W) : OR := .val (.bool (fleb b a)) w
def fIntOp (x : BinOp) : IntKind → Int → Int → W → OR := BinOp.rec (motive := fun _ => IntKind → Int → Int → W → OR) iAdd iSub (iSlow .mul) (iSlow .quo) (iSlow .rem) (iSlow .and) (iSlow .or) (iSlow .xor) (iSlow .shl) (iSlow .shr) (iSlow .andNot) iEql iNeq iLss iLeq iGtr iGeq x
def isShift (x : BinOp) : Bool := BinOp.rec (motive := fun _ => Bool) false false false false false false false false true true false false false false false false false x
def fIntBin (k : IntKind) (m : Int) (k' : IntKind) (n : Int) (op : BinOp) (w : W) : OR := bc (fkeq k k') (fIntOp op k m n w) (bc (isShift op) (fIntOp op k m n w) (.no 22))
def fBinI (a : AV) : IntKind → Int → Operand → Operand → TypeId → BinOp → W → OR := AV.rec (motive_1 := fun _ => IntKind → Int → Operand → Operand → TypeId → BinOp → W → OR) (motive_2 := fun _ => PUnit) (fun b  => (fun b k m x y t op w => evBin op t x y (.int k m) b w) (.bool b)) (fun k' n k m _ _ _ op w => fIntBin k m k' n op w) (fun l n  => (fun b k m x y t op w => evBin op t x y (.int k m) b w) (.str l n)) ((fun b k m x y t op w => evBin op t x y (.int k m) b w) AV.nilPtr) (fun b o  => (fun b k m x y t op w => evBin op t x y (.int k m) b w) (.ptr b o)) ((fun b k m x y t op w => evBin op t x y (.int k m) b w) AV.nilSlice) (fun b o l c e  => (fun b k m x y t op w => evBin op t x y (.int k m) b w) (.slice b o l c e)) ((fun b k m x y t op w => evBin op t x y (.int k m) b w) AV.nilMap) (fun b  => (fun b k m x y t op w => evBin op t x y (.int k m) b w) (.map b)) (fun f x y _ _ => (fun b k m x y t op w => evBin op t x y (.int k m) b w) (.func f x y)) ((fun b k m x y t op w => evBin op t x y (.int k m) b w) AV.nilFunc) (fun t v _ => (fun b k m x y t op w => evBin op t x y (.int k m) b w) (.iface t v)) ((fun b k m x y t op w => evBin op t x y (.int k m) b w) AV.nilIface) (fun x _ => (fun b k m x y t op w => evBin op t x y (.int k m) b w) (.agg x)) (fun x _ => (fun b k m x y t op w => evBin op t x y (.int k m) b w) (.tuple x)) ((fun b k m x y t op w => evBin op t x y (.int k m) b w) AV.esl) (fun b kb d n  => (fun b k m x y t op w => evBin op t x y (.int k m) b w) (.wsl b kb d n)) (fun b  => (fun b k m x y t op w => evBin op t x y (.int k m) b w) (.wse b)) (fun b kb i  => (fun b k m x y t op w => evBin op t x y (.int k m) b w) (.wptr b kb i)) (fun k e A  => (fun b k m x y t op w => evBin op t x y (.int k m) b w) (.sym k e A)) (fun c e A  => (fun b k m x y t op w => evBin op t x y (.int k m) b w) (.sx c e A)) (fun x  => (fun b k m x y t op w => evBin op t x y (.int k m) b w) (.gv x)) ((fun b k m x y t op w => evBin op t x y (.int k m) b w) AV.top) ⟨⟩ (fun _ _ _ _ => ⟨⟩) a
def fStrBin (l n l' n' : Nat) (op : BinOp) (w : W) : OR := retO (strBin op l n l' n') w 23
def fBinS (a : AV) : Nat → Nat → Operand → Operand → TypeId → BinOp → W → OR := AV.rec (motive_1 := fun _ => Nat → Nat → Operand → Operand → TypeId → BinOp → W → OR) (motive_2 := fun _ => PUnit) (fun b  => (fun b l n x y t op w => evBin op t x y (.str l n) b w) (.bool b)) (fun k n  => (fun b l n x y t op w => evBin op t x y (.str l n) b w) (.int k n)) (fun l' n' l n _ _ _ op w => fStrBin l n l' n' op w) ((fun b l n x y t op w => evBin op t x y (.str l n) b w) AV.nilPtr) (fun b o  => (fun b l n x y t op w => evBin op t x y (.str l n) b w) (.ptr b o)) ((fun b l n x y t op w => evBin op t x y (.str l n) b w) AV.nilSlice) (fun b o l c e  => (fun b l n x y t op w => evBin op t x y (.str l n) b w) (.slice b o l c e)) ((fun b l n x y t op w => evBin op t x y (.str l n) b w) AV.nilMap) (fun b  => (fun b l n x y t op w => evBin op t x y (.str l n) b w) (.map b)) (fun f x y _ _ => (fun b l n x y t op w => evBin op t x y (.str l n) b w) (.func f x y)) ((fun b l n x y t op w => evBin op t x y (.str l n) b w) AV.nilFunc) (fun t v _ => (fun b l n x y t op w => evBin op t x y (.str l n) b w) (.iface t v)) ((fun b l n x y t op w => evBin op t x y (.str l n) b w) AV.nilIface) (fun x _ => (fun b l n x y t op w => evBin op t x y (.str l n) b w) (.agg x)) (fun x _ => (fun b l n x y t op w => evBin op t x y (.str l n) b w) (.tuple x)) ((fun b l n x y t op w => evBin op t x y (.str l n) b w) AV.esl) (fun b kb d n  => (fun b l n x y t op w => evBin op t x y (.str l n) b w) (.wsl b kb d n)) (fun b  => (fun b l n x y t op w => evBin op t x y (.str l n) b w) (.wse b)) (fun b kb i  => (fun b l n x y t op w => evBin op t x y (.str l n) b w) (.wptr b kb i)) (fun k e A  => (fun b l n x y t op w => evBin op t x y (.str l n) b w) (.sym k e A)) (fun c e A  => (fun b l n x y t op w => evBin op t x y (.str l n) b w) (.sx c e A)) (fun x  => (fun b l n x y t op w => evBin op t x y (.str l n) b w) (.gv x)) ((fun b l n x y t op w => evBin op t x y (.str l n) b w) AV.top) ⟨⟩ (fun _ _ _ _ => ⟨⟩) a
def fBin (a : AV) : AV → Operand → Operand → TypeId → BinOp → W → OR := AV.rec (motive_1 := fun _ => AV → Operand → Operand → TypeId → BinOp → W → OR) (motive_2 := fun _ => PUnit) (fun b  => (fun a b x y t op w => evBin op t x y a b w) (.bool b)) (fun k m b => fBinI b k m) (fun l n b => fBinS b l n) ((fun a b x y t op w => evBin op t x y a b w) AV.nilPtr) (fun b o  => (fun a b x y t op w => evBin op t x y a b w) (.ptr b o)) ((fun a b x y t op w => evBin op t x y a b w) AV.nilSlice) (fun b o l c e  => (fun a b x y t op w => evBin op t x y a b w) (.slice b o l c e)) ((fun a b x y t op w => evBin op t x y a b w) AV.nilMap) (fun b  => (fun a b x y t op w => evBin op t x y a b w) (.map b)) (fun f x y _ _ => (fun a b x y t op w => evBin op t x y a b w) (.func f x y)) ((fun a b x y t op w => evBin op t x y a b w) AV.nilFunc) (fun t v _ => (fun a b x y t op w => evBin op t x y a b w) (.iface t v)) ((fun a b x y t op w => evBin op t x y a b w) AV.nilIface) (fun x _ => (fun a b x y t op w => evBin op t x y a b w) (.agg x)) (fun x _ => (fun a b x y t op w => evBin op t x y a b w) (.tuple x)) ((fun a b x y t op w => evBin op t x y a b w) AV.esl) (fun b kb d n  => (fun a b x y t op w => evBin op t x y a b w) (.wsl b kb d n)) (fun b  => (fun a b x y t op w => evBin op t x y a b w) (.wse b)) (fun b kb i  => (fun a b x y t op w => evBin op t x y a b w) (.wptr b kb i)) (fun k e A  => (fun a b x y t op w => evBin op t x y a b w) (.sym k e A)) (fun c e A  => (fun a b x y t op w => evBin op t x y a b w) (.sx c e A)) (fun x  => (fun a b x y t op w => evBin op t x y a b w) (.gv x)) ((fun a b x y t op w => evBin op t x y a b w) AV.top) ⟨⟩ (fun _ _ _ _ => ⟨⟩) a
def fPick (a : AV) : AV → AV → W → OR := AV.rec (motive_1 := fun _ => AV → AV → W → OR) (motive_2 := fun _ => PUnit) (fun c a b w => .val (bc c a b) w) (fun _ _ => (fun _ _ => no 147)) (fun _ _ => (fun _ _ => no 147)) (fun _ _ => no 147) (fun _ _ => (fun _ _ => no 147)) (fun _ _ => no 147) (fun _ _ _ _ _ => (fun _ _ => no 147)) (fun _ _ => no 147) (fun _ => (fun _ _ => no 147)) (fun _ _ _ _ _ => (fun _ _ => no 147)) (fun _ _ => no 147) (fun _ _ _ => (fun _ _ => no 147)) (fun _ _ => no 147) (fun _ _ => (fun _ _ => no 147)) (fun _ _ => (fun _ _ => no 147)) (fun _ _ => no 147) (fun _ _ _ _ => (fun _ _ => no 147)) (fun _ => (fun _ _ => no 147)) (fun _ _ _ => (fun _ _ => no 147)) (fun _ _ _ => (fun _ _ => no 147)) (fun _ _ _ => (fun _ _ => no 147)) (fun _ => (fun _ _ => no 147)) (fun _ _ => no 147) ⟨⟩ (fun _ _ _ _ => ⟨⟩) a
def fNilCheck (a : AV) : W → OR := AV.rec (motive_1 := fun _ => W → OR) (motive_2 := fun _ => PUnit) (fun _ => (no 146)) (fun _ _ => (no 146)) (fun _ _ => (no 146)) (no 146) (fun b o w => .val (.ptr b o) w) (no 146) (fun _ _ _ _ _ => (no 146)) (no 146) (fun _ => (no 146)) (fun f x y _ _ => (fun f x y w => evNilCheck (.func f x y) w) f x y) (no 146) (fun t v _ => (fun t v w => .val (.iface t v) w) t v) (no 146) (fun _ _ => (no 146)) (fun _ _ => (no 146)) (no 146) (fun _ _ _ _ => (no 146)) (fun _ => (no 146)) (fun _ _ _ => (no 146)) (fun _ _ _ => (no 146)) (fun _ _ _ => (no 146)) (fun _ => (no 146)) (no 146) ⟨⟩ (fun _ _ _ _ => ⟨⟩) a
def fExtract (a : AV) : Nat → W → OR := AV.rec (motive_1 := fun _ => Nat → W → OR) (motive_2 := fun _ => PUnit) (fun _ => (fun _ => no 149)) (fun _ _ => (fun _ => no 149)) (fun _ _ => (fun _ => no 149)) (fun _ => no 149) (fun _ _ => (fun _ => no 149)) (fun _ => no 149) (fun _ _ _ _ _ => (fun _ => no 149)) (fun _ => no 149) (fun _ => (fun _ => no 149)) (fun _ _ _ _ _ => (fun _ => no 149)) (fun _ => no 149) (fun _ _ _ => (fun _ => no 149)) (fun _ => no 149) (fun _ _ => (fun _ => no 149)) (fun x _ => (fun vs i w => retO (nth vs i) w 148) x) (fun _ => no 149) (fun _ _ _ _ => (fun _ => no 149)) (fun _ => (fun _ => no 149)) (fun _ _ _ => (fun _ => no 149)) (fun _ _ _ => (fun _ => no 149)) (fun _ _ _ => (fun _ => no 149)) (fun _ => (fun _ => no 149)) (fun _ => no 149) ⟨⟩ (fun _ _ _ _ => ⟨⟩) a
def fFAddr (b : K) (o : Nat) (p : Nat × Nat) (w : W) : OR := bc (Nat.beq p.2 0) (.no 42) (.val (.ptr b (o + p.1)) w)
def fFieldA (a : AV) : Nat × Nat → W → OR := AV.rec (motive_1 := fun _ => Nat × Nat → W → OR) (motive_2 := fun _ => PUnit) (fun _ => (fun _ => no 43)) (fun _ _ => (fun _ => no 43)) (fun _ _ => (fun _ => no 43)) (fun _ => no 43) fFAddr (fun _ => no 43) (fun _ _ _ _ _ => (fun _ => no 43)) (fun _ => no 43) (fun _ => (fun _ => no 43)) (fun _ _ _ _ _ => (fun _ => no 43)) (fun _ => no 43) (fun _ _ _ => (fun _ => no 43)) (fun _ => no 43) (fun _ _ => (fun _ => no 43)) (fun _ _ => (fun _ => no 43)) (fun _ => no 43) (fun _ _ _ _ => (fun _ => no 43)) (fun _ => (fun _ => no 43)) (fun _ _ _ => (fun _ => no 43)) (fun _ _ _ => (fun _ => no 43)) (fun _ _ _ => (fun _ => no 43)) (fun _ => (fun _ => no 43)) (fun _ => no 43) ⟨⟩ (fun _ _ _ _ => ⟨⟩) a
def fFieldAddr (s : TypeId) (f : Nat) : AV → W → OR := Option.rec (motive := fun _ => AV → W → OR) (fun _ => no 43) (fun p a => fFieldA a p) (structPlace s f)
def fKeyS (a : AV) : Nat → Nat → Option Bool := AV.rec (motive_1 := fun _ => Nat → Nat → Option Bool) (motive_2 := fun _ => PUnit) (fun _ => (fun _ _ => none)) (fun _ _ => (fun _ _ => none)) (fun l' n' l n => some (sEq l n l' n')) (fun _ _ => none) (fun _ _ => (fun _ _ => none)) (fun _ _ => none) (fun _ _ _ _ _ => (fun _ _ => none)) (fun _ _ => none) (fun _ => (fun _ _ => none)) (fun _ _ _ _ _ => (fun _ _ => none)) (fun _ _ => none) (fun _ _ _ => (fun _ _ => none)) (fun _ _ => none) (fun _ _ => (fun _ _ => none)) (fun _ _ => (fun _ _ => none)) (fun _ _ => none) (fun _ _ _ _ => (fun _ _ => none)) (fun _ => (fun _ _ => none)) (fun _ _ _ => (fun _ _ => none)) (fun _ _ _ => (fun _ _ => none)) (fun _ _ _ => (fun _ _ => none)) (fun _ => (fun _ _ => none)) (fun _ _ => none) ⟨⟩ (fun _ _ _ _ => ⟨⟩) a
def fKeyI (a : AV) : IntKind → Int → Option Bool := AV.rec (motive_1 := fun _ => IntKind → Int → Option Bool) (motive_2 := fun _ => PUnit) (fun _ => (fun _ _ => none)) (fun k' b k a => bc (fkeq k k') (some (feqb a b)) none) (fun _ _ => (fun _ _ => none)) (fun _ _ => none) (fun _ _ => (fun _ _ => none)) (fun _ _ => none) (fun _ _ _ _ _ => (fun _ _ => none)) (fun _ _ => none) (fun _ => (fun _ _ => none)) (fun _ _ _ _ _ => (fun _ _ => none)) (fun _ _ => none) (fun _ _ _ => (fun _ _ => none)) (fun _ _ => none) (fun _ _ => (fun _ _ => none)) (fun _ _ => (fun _ _ => none)) (fun _ _ => none) (fun _ _ _ _ => (fun _ _ => none)) (fun _ => (fun _ _ => none)) (fun _ _ _ => (fun _ _ => none)) (fun _ _ _ => (fun _ _ => none)) (fun _ _ _ => (fun _ _ => none)) (fun _ => (fun _ _ => none)) (fun _ _ => none) ⟨⟩ (fun _ _ _ _ => ⟨⟩) a
def fKeyB (a : AV) : Bool → Option Bool := AV.rec (motive_1 := fun _ => Bool → Option Bool) (motive_2 := fun _ => PUnit) (fun b a => some (a == b)) (fun _ _ => (fun _ => none)) (fun _ _ => (fun _ => none)) (fun _ => none) (fun _ _ => (fun _ => none)) (fun _ => none) (fun _ _ _ _ _ => (fun _ => none)) (fun _ => none) (fun _ => (fun _ => none)) (fun _ _ _ _ _ => (fun _ => none)) (fun _ => none) (fun _ _ _ => (fun _ => none)) (fun _ => none) (fun _ _ => (fun _ => none)) (fun _ _ => (fun _ => none)) (fun _ => none) (fun _ _ _ _ => (fun _ => none)) (fun _ => (fun _ => none)) (fun _ _ _ => (fun _ => none)) (fun _ _ _ => (fun _ => none)) (fun _ _ _ => (fun _ => none)) (fun _ => (fun _ => none)) (fun _ => none) ⟨⟩ (fun _ _ _ _ => ⟨⟩) a
def fKeyEq (a : AV) : AV → Option Bool := AV.rec (motive_1 := fun _ => AV → Option Bool) (motive_2 := fun _ => PUnit) (fun a b => fKeyB b a) (fun k a b => fKeyI b k a) (fun l n b => fKeyS b l n) (fun _ => none) (fun _ _ => (fun _ => none)) (fun _ => none) (fun _ _ _ _ _ => (fun _ => none)) (fun _ => none) (fun _ => (fun _ => none)) (fun _ _ _ _ _ => (fun _ => none)) (fun _ => none) (fun _ _ _ => (fun _ => none)) (fun _ => none) (fun _ _ => (fun _ => none)) (fun _ _ => (fun _ => none)) (fun _ => none) (fun _ _ _ _ => (fun _ => none)) (fun _ => (fun _ => none)) (fun _ _ _ => (fun _ => none)) (fun _ _ _ => (fun _ => none)) (fun _ _ _ => (fun _ => none)) (fun _ => (fun _ => none)) (fun _ => none) ⟨⟩ (fun _ _ _ _ => ⟨⟩) a
def fstP (e : AV × AV) : AV := Prod.rec (motive := fun _ => AV) (fun a _ => a) e
def sndP (e : AV × AV) : AV := Prod.rec (motive := fun _ => AV) (fun _ b => b) e
def fFindK (r : Option Bool) (e : AV × AV) (ih : AV → Option (Option AV)) (k : AV) : Option (Option AV) :=
  Option.rec (motive := fun _ => AV × AV → (AV → Option (Option AV)) → AV → Option (Option AV)) (fun _ _ _ => none)
    (fun r => Bool.rec (motive := fun _ => AV × AV → (AV → Option (Option AV)) → AV → Option (Option AV)) (fun _ ih k => ih k) (fun e _ _ => some (some (sndP e))) r) r e ih k
def fFind (es : List (AV × AV)) : AV → Option (Option AV) := List.rec (motive := fun _ => AV → Option (Option AV)) (fun _ => some none)
  (fun e _ ih k => fFindK (fKeyEq k (fstP e)) e ih k) es
/- an entry put into a list of entries: first looked for, then put in front or replaced -/
def fAdd (es : List (AV × AV)) (k v : AV) : List (AV × AV) := List.rec (motive := fun _ => AV → AV → List (AV × AV)) (fun k v => [(k, v)]) (fun e _ ih k v => e :: ih k v) es k v
def fPut (es : List (AV × AV)) (k v : AV) : Option (List (AV × AV)) := match fFind es k with
  | some none => some (fAdd es k v)
  | some (some _) => putA k v es
  | none => none
def fUpd (es : List (AV × AV)) (b : K) (k v : AV) (w : W) : OR := match fPut es k v with
  | some es' => .val undefA (wset b (.map es') w)
  | none => .no 74

def fUpdO (x : AObj) : K → AV → AV → W → OR := AObj.rec (motive := fun _ => K → AV → AV → W → OR) (fun _ _ _ => no 75) (fun _ _ _ _ _ _ => (fun _ _ _ => no 75)) (fun _ _ _ => (fun _ _ _ => no 75)) fUpd (fun _ _ _ => (fun _ _ _ => no 75)) (fun _ _ _ _ _ _ _ _ _ => (fun _ _ _ => no 75)) (fun _ => (fun _ _ _ => no 75)) (fun _ _ => (fun _ _ _ => no 75)) (fun _ => (fun _ _ _ => no 75)) (fun _ _ _ _ _ => (fun _ _ _ => no 75)) (fun _ => (fun _ _ _ => no 75)) x
def fUpdM (a : AV) : AV → AV → W → OR := AV.rec (motive_1 := fun _ => AV → AV → W → OR) (motive_2 := fun _ => PUnit) (fun _ => (fun _ _ => no 76)) (fun _ _ => (fun _ _ => no 76)) (fun _ _ => (fun _ _ => no 76)) (fun _ _ => no 76) (fun _ _ => (fun _ _ => no 76)) (fun _ _ => no 76) (fun _ _ _ _ _ => (fun _ _ => no 76)) (fun _ _ => no 76) (fun b k v w => fUpdO (wget b w) b k v w) (fun _ _ _ _ _ => (fun _ _ => no 76)) (fun _ _ => no 76) (fun _ _ _ => (fun _ _ => no 76)) (fun _ _ => no 76) (fun _ _ => (fun _ _ => no 76)) (fun _ _ => (fun _ _ => no 76)) (fun _ _ => no 76) (fun _ _ _ _ => (fun _ _ => no 76)) (fun _ => (fun _ _ => no 76)) (fun _ _ _ => (fun _ _ => no 76)) (fun _ _ _ => (fun _ _ => no 76)) (fun _ _ _ => (fun _ _ => no 76)) (fun _ => (fun _ _ => no 76)) (fun _ _ => no 76) ⟨⟩ (fun _ _ _ _ => ⟨⟩) a
def fUpdate (t : TypeId) (m k v : AV) (w : W) : OR := bc (plainKey t && keyOk t k) (fUpdM m k v w) (evUpdateS t m k v w)
def fNat (a : AV) : Option Nat := AV.rec (motive_1 := fun _ => Option Nat) (motive_2 := fun _ => PUnit) (fun _ => none) (fun _ n => Int.rec (motive := fun _ => Option Nat) some (fun _ => none) n) (fun _ _ => none) none (fun _ _ => none) none (fun _ _ _ _ _ => none) none (fun _ => none) (fun _ _ _ _ _ => none) none (fun _ _ _ => none) none (fun _ _ => none) (fun _ _ => none) none (fun _ _ _ _ => none) (fun _ => none) (fun _ _ _ => none) (fun _ _ _ => none) (fun _ _ _ => none) (fun _ => none) none ⟨⟩ (fun _ _ _ _ => ⟨⟩) a
def fIdxS (i : Nat) (s : Nat) (b : K) (o len : Nat) (w : W) : OR := bc (Nat.blt i len) (.val (.ptr b (o + i * s)) w) (.no 48)
def fIdxA (a : AV) : Nat → Nat → W → OR := AV.rec (motive_1 := fun _ => Nat → Nat → W → OR) (motive_2 := fun _ => PUnit) (fun _ => (fun _ _ => no 50)) (fun _ _ => (fun _ _ => no 50)) (fun _ _ => (fun _ _ => no 50)) (fun _ _ => no 50) (fun _ _ => (fun _ _ => no 50)) (fun _ _ => no 50) (fun b o len _ _ i s w => fIdxS i s b o len w) (fun _ _ => no 50) (fun _ => (fun _ _ => no 50)) (fun _ _ _ _ _ => (fun _ _ => no 50)) (fun _ _ => no 50) (fun _ _ _ => (fun _ _ => no 50)) (fun _ _ => no 50) (fun _ _ => (fun _ _ => no 50)) (fun _ _ => (fun _ _ => no 50)) (fun _ _ => no 50) (fun b kb d n i s w => bc (Nat.beq s 1) (bc (Nat.blt i n) (.val (.wptr b kb (d + i)) w) (.no 48)) (.no 50)) (fun _ => (fun _ _ => no 50)) (fun _ _ _ => (fun _ _ => no 50)) (fun _ _ _ => (fun _ _ => no 50)) (fun _ _ _ => (fun _ _ => no 50)) (fun _ => (fun _ _ => no 50)) (fun _ _ => no 50) ⟨⟩ (fun _ _ _ _ => ⟨⟩) a
/-- the size of a slice type's elements -/
def elemSize (t : TypeId) : Option Nat := match undOf t with
  | some (.slice e) => sizeOf e
  | _ => none
def fIdxN (n : Option Nat) : Nat → AV → TypeId → AV → W → OR := Option.rec (motive := fun _ => Nat → AV → TypeId → AV → W → OR) (fun _ _ _ _ => no 50) (fun i s x _ _ w => fIdxA x i s w) n
def fIndexAddr (t : TypeId) : AV → AV → W → OR := Option.rec (motive := fun _ => AV → AV → W → OR) (fun x i w => evIndexAddr t x i w) (fun s x i w => fIdxN (fNat i) s x t i w) (elemSize t)
def isStr (t : TypeId) : Bool := match undOf t with
  | some .string => true
  | _ => false
def fIdxT (i : Nat) (len n : Nat) (w : W) : OR := bc (Nat.blt i len) (.val (.int .u8 (.ofNat (sAt len n i))) w) (.no 51)
def fIdxStr (a : AV) : Nat → W → OR := AV.rec (motive_1 := fun _ => Nat → W → OR) (motive_2 := fun _ => PUnit) (fun _ => (fun _ => no 55)) (fun _ _ => (fun _ => no 55)) (fun len n i w => fIdxT i len n w) (fun _ => no 55) (fun _ _ => (fun _ => no 55)) (fun _ => no 55) (fun _ _ _ _ _ => (fun _ => no 55)) (fun _ => no 55) (fun _ => (fun _ => no 55)) (fun _ _ _ _ _ => (fun _ => no 55)) (fun _ => no 55) (fun _ _ _ => (fun _ => no 55)) (fun _ => no 55) (fun _ _ => (fun _ => no 55)) (fun _ _ => (fun _ => no 55)) (fun _ => no 55) (fun _ _ _ _ => (fun _ => no 55)) (fun _ => (fun _ => no 55)) (fun _ _ _ => (fun _ => no 55)) (fun _ _ _ => (fun _ => no 55)) (fun _ _ _ => (fun _ => no 55)) (fun _ => (fun _ => no 55)) (fun _ => no 55) ⟨⟩ (fun _ _ _ _ => ⟨⟩) a
def fIdxSN (n : Option Nat) : AV → W → OR := Option.rec (motive := fun _ => AV → W → OR) (fun _ => no 55) (fun i x w => fIdxStr x i w) n
def fIndex (t : TypeId) : AV → AV → W → OR := bc (isStr t) (fun x i w => fIdxSN (fNat i) x w) (fun x i w => evIndex t x i w)

def fLenS (a : AV) : W → OR := AV.rec (motive_1 := fun _ => W → OR) (motive_2 := fun _ => PUnit) (fun _ => (no 101)) (fun _ _ => (no 101)) (fun _ _ => (no 101)) (no 101) (fun _ _ => (no 101)) (fun w => .val (.int .i64 (.ofNat 0)) w) (fun _ _ len _ _ w => .val (.int .i64 (.ofNat len)) w) (no 101) (fun _ => (no 101)) (fun _ _ _ _ _ => (no 101)) (no 101) (fun _ _ _ => (no 101)) (no 101) (fun _ _ => (no 101)) (fun _ _ => (no 101)) (fun w => .val (.int .i64 (.ofNat 0)) w) (fun _ _ _ n w => .val (.int .i64 (.ofNat n)) w) (fun _ w => .val (.int .i64 (.ofNat 0)) w) (fun _ _ _ => (no 101)) (fun _ _ _ => (no 101)) (fun _ _ _ => (no 101)) (fun _ => (no 101)) (no 101) ⟨⟩ (fun _ _ _ _ => ⟨⟩) a
def fLenT (a : AV) : W → OR := AV.rec (motive_1 := fun _ => W → OR) (motive_2 := fun _ => PUnit) (fun _ => (no 101)) (fun _ _ => (no 101)) (fun len _ w => .val (.int .i64 (.ofNat len)) w) (no 101) (fun _ _ => (no 101)) (no 101) (fun _ _ _ _ _ => (no 101)) (no 101) (fun _ => (no 101)) (fun _ _ _ _ _ => (no 101)) (no 101) (fun _ _ _ => (no 101)) (no 101) (fun _ _ => (no 101)) (fun _ _ => (no 101)) (no 101) (fun _ _ _ _ => (no 101)) (fun _ => (no 101)) (fun _ _ _ => (no 101)) (fun _ _ _ => (no 101)) (fun _ _ _ => (no 101)) (fun _ => (no 101)) (no 101) ⟨⟩ (fun _ _ _ _ => ⟨⟩) a
def isSlice (t : TypeId) : Bool := match undOf t with
  | some (.slice _) => true
  | _ => false
def fLen (t : TypeId) : AV → W → OR := bc (isSlice t) fLenS (bc (isStr t) fLenT (fun x w => evLen t x w))

def fNum (n : Nat) : FuncId → List AV → W → OR := Nat.rec (motive := fun _ => FuncId → List AV → W → OR) (fun f vs w => callFn f vs w)
  (fun m _ => Nat.rec (motive := fun _ => FuncId → List AV → W → OR) (fun f vs w => .call f vs w) (fun _ _ f vs w => callFn f vs w) m) n
def fCallFn (f : FuncId) : List AV → W → OR := fNum (externOf f) f
def fCallF (fn : Fn) (x y : List AV) : List AV → W → OR := Fn.rec (motive := fun _ => List AV → List AV → List AV → W → OR)
  (fun g x y vs w => fCallFn g (lapp (lapp x vs) y) w) (fun n x y vs w => callV (.func (.method n) x y) vs w) (fun t n x y vs w => callV (.func (.methodOf t n) x y) vs w)
  (fun t p f b x y vs w => callV (.func (.via t p f b) x y) vs w) (fun l x y vs w => callV (.func (.yield l) x y) vs w) fn x y
def fCallV (a : AV) : List AV → W → OR := AV.rec (motive_1 := fun _ => List AV → W → OR) (motive_2 := fun _ => PUnit) (fun _ => (fun _ => no 97)) (fun _ _ => (fun _ => no 97)) (fun _ _ => (fun _ => no 97)) (fun _ => no 97) (fun _ _ => (fun _ => no 97)) (fun _ => no 97) (fun _ _ _ _ _ => (fun _ => no 97)) (fun _ => no 97) (fun _ => (fun _ => no 97)) (fun f x y _ _ => fCallF f x y) (fun _ => no 97) (fun _ _ _ => (fun _ => no 97)) (fun _ => no 97) (fun _ _ => (fun _ => no 97)) (fun _ _ => (fun _ => no 97)) (fun _ => no 97) (fun _ _ _ _ => (fun _ => no 97)) (fun _ => (fun _ => no 97)) (fun _ _ _ => (fun _ => no 97)) (fun _ _ _ => (fun _ => no 97)) (fun _ _ _ => (fun _ => no 97)) (fun _ => (fun _ => no 97)) (fun _ => no 97) ⟨⟩ (fun _ _ _ _ => ⟨⟩) a
def fMeth (d : Option (FuncId × Option TypeId)) (v : AV) (vs : List AV) (w : W) : OR := match d with
  | some (f, none) => fCallFn f (v :: vs) w
  | some (f, some e) => (match v with
    | .ptr _ _ => (match evLoad e v w with
      | .val r _ => fCallFn f (r :: vs) w
      | _ => .no 93)
    | _ => .no 98)
  | none => .no 94
def fCallM (a : AV) : String → List AV → W → OR := AV.rec (motive_1 := fun _ => String → List AV → W → OR) (motive_2 := fun _ => PUnit) (fun _ => (fun _ _ => no 95)) (fun _ _ => (fun _ _ => no 95)) (fun _ _ => (fun _ _ => no 95)) (fun _ _ => no 95) (fun _ _ => (fun _ _ => no 95)) (fun _ _ => no 95) (fun _ _ _ _ _ => (fun _ _ => no 95)) (fun _ _ => no 95) (fun _ => (fun _ _ => no 95)) (fun _ _ _ _ _ => (fun _ _ => no 95)) (fun _ _ => no 95) (fun t v _ => (fun t v name vs w => fMeth (dispatch t name) v vs w) t v) (fun _ _ => no 95) (fun _ _ => (fun _ _ => no 95)) (fun _ _ => (fun _ _ => no 95)) (fun _ _ => no 95) (fun _ _ _ _ => (fun _ _ => no 95)) (fun _ => (fun _ _ => no 95)) (fun _ _ _ => (fun _ _ => no 95)) (fun _ _ _ => (fun _ _ => no 95)) (fun _ _ _ => (fun _ _ => no 95)) (fun _ => (fun _ _ => no 95)) (fun _ _ => no 95) ⟨⟩ (fun _ _ _ _ => ⟨⟩) a
def isLen (b : Builtin) : Bool := Builtin.rec (motive := fun _ => Bool) false false false false false false false false true false false false false false false false false false false false false false false false false false b
def fLenL (ts : List TypeId) (vs : List AV) (w : W) : OR := List.rec (motive := fun _ => List AV → W → OR) (fun _ => no 143)
  (fun t _ _ vs w => List.rec (motive := fun _ => TypeId → W → OR) (fun _ => no 143) (fun x r _ t w => List.rec (motive := fun _ => AV → TypeId → W → OR) (fun x t w => fLen t x w) (fun _ _ _ _ _ => no 143) r x t w) vs t w) ts vs w
def fBuiltin (b : Builtin) : List TypeId → List AV → W → OR := bc (isLen b) fLenL (fun ts vs w => evBuiltin b ts vs w)
def fCall (c : Call) : F → W → OR := Call.rec (motive := fun _ => F → W → OR) (fun callee args ts => Callee.rec (motive := fun _ => List Operand → List TypeId → F → W → OR)
    (fun f args _ τ w => fCallV (evX f τ) (xsAll args τ) w)
    (fun r name args _ τ w => fCallM (evX r τ) name (xsAll args τ) w)
    (fun b args ts τ w => fBuiltin b ts (xsAll args τ) w) callee args.toList ts.toList) c
/-- one operation -/
def fOp (o : Op) : F → W → OR := Op.rec (motive := fun _ => F → W → OR)
  (fun x τ w => .val (evX x τ) w) /- move -/
  (fun x τ w => .val (evX x τ) w) /- assign -/
  (fun c a b τ w => fPick (evX c τ) (evX a τ) (evX b τ) w) /- pick -/
  (fun t τ w => evOp (.alloc t) τ w) /- alloc -/
  (fun t x τ w => bc (notTop (evX x τ)) (newRow t (cellsOf (evX x τ)) w) (.no 173)) /- box -/
  (fun t ps τ w => evBuild t (evParts ps.toList τ) w)
  (fun t len ps τ w => evBuildSlice t len (evParts ps.toList τ) w)
  (fun t m k v τ w => fUpdate t (evX m τ) (evX k τ) (evX v τ) w) /- insert -/
  (fun t a τ w => fLoad t (evX a τ) w)
  (fun t a v τ w => fStore t (evX a τ) (evX v τ) w)
  (fun _ _ _ => .no 161) (fun _ _ _ => .no 162) /- ready, waits -/
  (fun x τ w => fNilCheck (evX x τ) w)
  (fun op t x y _ τ w => fBin (evX x τ) (evX y τ) x y t op w)
  (fun op _ x τ w => evUn op (evX x τ) w)
  (fun s d x τ w => evConv s d (evX x τ) w)
  (fun _ _ _ _ => .no 163) /- sliceToArrayPointer -/
  (fun t x τ w => bc (isIface t) (.no 164) (bc (undOf t).isSome (.val (.iface t (evX x τ)) w) (.no 164)))
  (fun fn first cap τ w => bc (plainFn fn) (.val (.func fn (xsAll first.toList τ) (xsAll cap.toList τ)) w) (.no 175))
  (fun t r τ w => evMakeMap t (r.map fun y => evX y τ) w)
  (fun _ _ _ _ => .no 165) /- makeChan -/
  (fun t l c τ w => evMakeSlice t (evX l τ) (evX c τ) w)
  (fun t x lo hi mx τ w => evSlice t (evX x τ) (lo.map fun y => evX y τ) (hi.map fun y => evX y τ) (mx.map fun y => evX y τ) w)
  (fun s x f τ w => fFieldAddr s f (evX x τ) w)
  (fun s x f τ w => evField s f (evX x τ) w)
  (fun t x i τ w => fIndexAddr t (evX x τ) (evX i τ) w)
  (fun t x i τ w => fIndex t (evX x τ) (evX i τ) w)
  (fun t m k ok τ w => evLookup t (evX m τ) (evX k τ) ok w)
  (fun t m k v τ w => fUpdate t (evX m τ) (evX k τ) (evX v τ) w)
  (fun _ _ _ _ _ => .no 166) (fun _ _ _ _ _ _ => .no 167) /- mapEntry, entryStore -/
  (fun t x τ w => evRange t (evX x τ) w)
  (fun it s τ w => evNext (evX it τ) s w)
  (fun _ _ _ => .no 168) /- entry -/
  (fun x _ a ok τ w => evAssert (evX x τ) a ok w)
  (fun t i τ w => fExtract (evX t τ) i w)
  (fun c τ w => fCall c τ w)
  (fun _ _ _ => .no 169) /- go -/
  (fun c τ w => evDefer c τ w)
  (fun x τ w => evPanic (evX x τ) w)
  (fun _ _ _ _ => .no 170) (fun _ _ _ _ _ => .no 171) (fun _ _ _ _ => .no 172) o

end
end Go.Ev
