/- The example of the chapter. No condition. -/
import Derived.Test.YtjakdjfepibedaaGreatDoorRune
import Derived.Test.YtjakdjfepibedaaGreatDoorValid
import Derived.KernelRfl
set_option maxRecDepth 100000
set_option linter.all false
namespace Go.Ev
noncomputable def HX : Hook := orH (rcH 55) (vsH 107)
theorem HX_ok : HookOk HX := orH_ok (rcH_ok Go.Proofs.YtjakdjfepibedaaGreatDoor.rc_seat) (vsH_ok Go.Proofs.YtjakdjfepibedaaGreatDoor.vs_seat)
theorem lives_run : retV (enter (run HX 1000000) 16 [] wS) (.bool true) = true := by kernel_rfl
theorem lives_fact : HookFact 16 [] (.bool true) := fact_of_run HX_ok rfl rfl lives_run
end Go.Ev
