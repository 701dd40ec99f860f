import Derived.Test.YtkfdioikigponaaGreatDoorEvB
set_option linter.all false
namespace Go.Ev
noncomputable section
def no (c : Nat) (_ : W) : OR := .no c
def al1 (b : Bool) : Bool := Bool.rec (motive := fun _ => Bool) true false b
def fOp (o : Op) (τ : F) (w : W) : OR := ad5 o τ w
end
end Go.Ev
