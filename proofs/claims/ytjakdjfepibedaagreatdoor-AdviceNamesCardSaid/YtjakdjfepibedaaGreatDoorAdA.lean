/- The example of the chapter. No condition. -/
import Derived.Test.YtjakdjfepibedaaGreatDoorEvGo
import Derived.KernelRfl
set_option maxRecDepth 100000
set_option linter.all false
namespace Go.Ev
theorem lives_run : retV (enter (run noHook 1000000) 6 [] wS) (.bool true) = true := by kernel_rfl
theorem lives_fact : HookFact 6 [] (.bool true) := fact_of_run noHook_ok rfl rfl lives_run
end Go.Ev
