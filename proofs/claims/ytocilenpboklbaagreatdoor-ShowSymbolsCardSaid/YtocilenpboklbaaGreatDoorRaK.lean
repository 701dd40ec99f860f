import Derived.Test.YtocilenpboklbaaGreatDoorRaJ
set_option maxRecDepth 100000
set_option linter.all false
namespace Go.Ev
abbrev bny : AL := .i (.c 0) .nil
abbrev b00 : AL := .g .nil bny
section
variable {σ : Nat → List Int}
end
theorem a9m (s : List Int) : abu s = 0 ∨ abu s = 1 ∨ abu s = 2 := by
 unfold abu
 rw [oq]
 split
 ·exact .inl rfl
 ·have := (an8 (ew s) _ 0 0 (if avz s = 1 then 2305843009213693952 else 2305843009213693951) 1 (zY _) (by omega) (by split <;> omega) (.inr rfl)).1
  omega
section
variable {σ : Nat → List Int}
end
end Go.Ev
