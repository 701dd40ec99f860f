/- The closed run of the law comes to true. No condition. -/
import Derived.Test.YtjakdjfepibedaaGreatDoorAdA
import Derived.Test.YtjakdjfepibedaaGreatDoorAdI
set_option maxRecDepth 100000
set_option linter.all false
namespace Go.Ev
def adHE : List HE := [.mk 6 [] (.bool true)]
theorem adHE_ok : HookOk (hooks adHE) := by
  refine hooks_ok _ fun f vs v h => ?_
  unfold adHE at h
  rw [List.mem_singleton] at h
  injection h with h1 h2 h3
  subst h1; subst h2; subst h3
  exact lives_fact
theorem advice_run : retV (enter (run (orH (hooks adHE) (hooksF adRows)) 1000000) 3 [] wS) (.bool true) = true := by kernel_rfl
theorem known_fact : HookFact 3 [] (.bool true) := fact_of_run (orH_ok adHE_ok adRows_ok) rfl rfl advice_run
end Go.Ev
