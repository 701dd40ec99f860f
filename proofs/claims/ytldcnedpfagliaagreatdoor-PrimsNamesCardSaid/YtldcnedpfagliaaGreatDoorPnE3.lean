/- Examples of the chapter, each by a closed run. -/
import Derived.Test.YtldcnedpfagliaaGreatDoorPnR
set_option linter.all false
set_option maxRecDepth 100000
namespace Go.Proofs.YtldcnedpfagliaaGreatDoor
open Go.Ev
theorem ex21_run : retV (enter (run (hooksR rfR) 1000000) 6 [.str 12 12503255770088985885394612521] wS) (.str 22 15134428659656697522760974834573766379204428115307561) = true := by kernel_rfl
theorem ex21 : HookFact 6 [.str 12 12503255770088985885394612521] (.str 22 15134428659656697522760974834573766379204428115307561) := fact_of_run rfR_ok rfl rfl ex21_run
theorem ex22_run : retV (enter (run (hooksR rfR) 1000000) 6 [.str 8 2913388550636660777] wS) (.str 12 34177695036332210374805386853) = true := by kernel_rfl
theorem ex22 : HookFact 6 [.str 8 2913388550636660777] (.str 12 34177695036332210374805386853) := fact_of_run rfR_ok rfl rfl ex22_run
theorem ex23_run : retV (enter (run (hooksR rfR) 1000000) 6 [.str 9 740977300705617392425] wS) (.str 1 54) = true := by kernel_rfl
theorem ex23 : HookFact 6 [.str 9 740977300705617392425] (.str 1 54) := fact_of_run rfR_ok rfl rfl ex23_run
theorem ex24_run : retV (enter (run (hooksR rfR) 1000000) 6 [.str 7 11368269246116137] wS) (.str 29 1090977105337601561389681388317904627453745345473007100220983721603369) = true := by kernel_rfl
theorem ex24 : HookFact 6 [.str 7 11368269246116137] (.str 29 1090977105337601561389681388317904627453745345473007100220983721603369) := fact_of_run rfR_ok rfl rfl ex24_run
end Go.Proofs.YtldcnedpfagliaaGreatDoor
