/- The closed run of the law comes to true. No condition. -/
import Derived.Test.YtjakdjfepibedaaGreatDoorShA
set_option maxRecDepth 100000
set_option linter.all false
namespace Go.Ev
def shHE : List HE := [.mk 16 [] (.bool true)]
theorem shHE_ok : HookOk (hooks shHE) := by
  refine hooks_ok _ fun f vs v h => ?_
  unfold shHE at h
  rw [List.mem_singleton] at h
  injection h with h1 h2 h3
  subst h1; subst h2; subst h3
  exact lives_fact
theorem show_run : retV (enter (run (orH (hooks shHE) HX) 1000000) 4 [] wS) (.bool true) = true := by kernel_rfl
theorem known_fact : HookFact 4 [] (.bool true) := fact_of_run (orH_ok shHE_ok HX_ok) rfl rfl show_run
end Go.Ev
