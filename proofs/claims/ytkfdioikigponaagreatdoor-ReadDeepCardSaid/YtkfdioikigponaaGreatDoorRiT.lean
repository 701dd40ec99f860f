import Derived.Test.YtkfdioikigponaaGreatDoorRiD
set_option maxRecDepth 100000
set_option linter.all false
namespace Go.Ev
/- read's token: the loop over an integer's text. -/
noncomputable section
def tP : SE := .bin 0 .i64 (.v 1) (.c 0)
def tC : SE := .rd (.s 0) tP
def tNo (n : Int) : SA := .mk false tC (.c n) false
end
/- the row's parts -/
section
variable {σ : Nat → List Int}
open Classical in
theorem getD_of {l : List Int} {i : Nat} {x : Int} (h : l[i]? = some x) : l.getD i 0 = x := by simp [List.getD, h]
end
section
variable [Gv]
end
noncomputable section
end
end Go.Ev
