import Derived.Test.YtdeddgiacdjjdaaGreatDoorEvB
set_option linter.all false
namespace Go.Ev
noncomputable section
def no (c : Nat) (_ : W) : OR := .no c
def xv (b : Bool) : Bool := Bool.rec (motive := fun _ => Bool) true false b
def fOp (o : Op) (τ : F) (w : W) : OR := x9 o τ w
end
end Go.Ev
