/- Examples of the chapter, each by a closed run. -/
import Derived.Test.YtldcnedpfagliaaGreatDoorPnR
set_option linter.all false
set_option maxRecDepth 100000
namespace Go.Proofs.YtldcnedpfagliaaGreatDoor
open Go.Ev
theorem ex7_run : retV (enter (run (hooksR rfR) 1000000) 6 [.str 11 48817231212038684568006953] wS) (.str 2 11571) = true := by kernel_rfl
theorem ex7 : HookFact 6 [.str 11 48817231212038684568006953] (.str 2 11571) := fact_of_run rfR_ok rfl rfl ex7_run
theorem ex8_run : retV (enter (run (hooksR rfR) 1000000) 6 [.str 9 742202279804262167081] wS) (.str 3 7235948) = true := by kernel_rfl
theorem ex8 : HookFact 6 [.str 9 742202279804262167081] (.str 3 7235948) := fact_of_run rfR_ok rfl rfl ex8_run
theorem ex9_run : retV (enter (run (hooksR rfR) 1000000) 6 [.str 13 3203310578766234890962281310505] wS) (.str 3 7235948) = true := by kernel_rfl
theorem ex9 : HookFact 6 [.str 13 3203310578766234890962281310505] (.str 3 7235948) := fact_of_run rfR_ok rfl rfl ex9_run
theorem ex10_run : retV (enter (run (hooksR rfR) 1000000) 6 [.str 18 3517648283991786418521160604144644846007081] wS) (.str 9 741409647369289478953) = true := by kernel_rfl
theorem ex10 : HookFact 6 [.str 18 3517648283991786418521160604144644846007081] (.str 9 741409647369289478953) := fact_of_run rfR_ok rfl rfl ex10_run
theorem ex11_run : retV (enter (run (hooksR rfR) 1000000) 6 [.str 22 15111021707338829694592196711712700226332782869422633] wS) (.str 9 631900662140123301154) = true := by kernel_rfl
theorem ex11 : HookFact 6 [.str 22 15111021707338829694592196711712700226332782869422633] (.str 9 631900662140123301154) := fact_of_run rfR_ok rfl rfl ex11_run
theorem ex12_run : retV (enter (run (hooksR rfR) 1000000) 6 [.str 26 65002243740130173299985683823893421962487674244995586901680681] wS) (.str 3 2961714) = true := by kernel_rfl
theorem ex12 : HookFact 6 [.str 26 65002243740130173299985683823893421962487674244995586901680681] (.str 3 2961714) := fact_of_run rfR_ok rfl rfl ex12_run
theorem ex13_run : retV (enter (run (hooksR rfR) 1000000) 6 [.str 14 819016919784856120251639595545129] wS) (.str 27 16611636689687479002929314493818653453540086945237932380415603241) = true := by kernel_rfl
theorem ex13 : HookFact 6 [.str 14 819016919784856120251639595545129] (.str 27 16611636689687479002929314493818653453540086945237932380415603241) := fact_of_run rfR_ok rfl rfl ex13_run
end Go.Proofs.YtldcnedpfagliaaGreatDoor
