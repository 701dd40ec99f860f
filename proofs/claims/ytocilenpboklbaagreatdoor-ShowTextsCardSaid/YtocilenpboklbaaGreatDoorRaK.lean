import Derived.Test.YtocilenpboklbaaGreatDoorRaJ
set_option maxRecDepth 100000
set_option linter.all false
namespace Go.Ev
abbrev brg : AL := .i (.c 0) .nil
abbrev b1z : AL := .g .nil brg
section
variable {σ : Nat → List Int}
end
theorem bpy (s : List Int) : qw s = 0 ∨ qw s = 1 ∨ qw s = 2 := by
 unfold qw
 rw [ow]
 split
 ·exact .inl rfl
 ·have := (aox (gy s) _ 0 0 (if zc s = 1 then 2305843009213693952 else 2305843009213693951) 1 (zY _) (by omega) (by split <;> omega) (.inr rfl)).1
  omega
section
variable {σ : Nat → List Int}
end
end Go.Ev
