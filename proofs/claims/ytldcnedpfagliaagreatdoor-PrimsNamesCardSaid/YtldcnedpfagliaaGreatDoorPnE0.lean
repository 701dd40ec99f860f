/- Examples of the chapter, each by a closed run. -/
import Derived.Test.YtldcnedpfagliaaGreatDoorPnR
set_option linter.all false
set_option maxRecDepth 100000
namespace Go.Proofs.YtldcnedpfagliaaGreatDoor
open Go.Ev
theorem ex0_run : retV (enter (run (hooksR rfR) 1000000) 6 [.str 8 2895568506557641257] wS) (.str 2 11571) = true := by kernel_rfl
theorem ex0 : HookFact 6 [.str 8 2895568506557641257] (.str 2 11571) := fact_of_run rfR_ok rfl rfl ex0_run
theorem ex1_run : retV (enter (run (hooksR rfR) 1000000) 6 [.str 10 190913380994634601214761] wS) (.str 1 50) = true := by kernel_rfl
theorem ex1 : HookFact 6 [.str 10 190913380994634601214761] (.str 1 50) := fact_of_run rfR_ok rfl rfl ex1_run
theorem ex2_run : retV (enter (run (hooksR rfR) 1000000) 6 [.str 5 172555777321] wS) (.str 2 11573) = true := by kernel_rfl
theorem ex2 : HookFact 6 [.str 5 172555777321] (.str 2 11573) := fact_of_run rfR_ok rfl rfl ex2_run
theorem ex3_run : retV (enter (run (hooksR rfR) 1000000) 6 [.str 24 991855876637475030916251120176893647271901363445422698793] wS) (.str 5 147730492450) = true := by kernel_rfl
theorem ex3 : HookFact 6 [.str 24 991855876637475030916251120176893647271901363445422698793] (.str 5 147730492450) := fact_of_run rfR_ok rfl rfl ex3_run
theorem ex4_run : retV (enter (run (hooksR rfR) 1000000) 6 [.str 27 16640549141948971393997560099265131891368449692771882969164685865] wS) (.str 16 53347628022020985966110930352598098473) = true := by kernel_rfl
theorem ex4 : HookFact 6 [.str 27 16640549141948971393997560099265131891368449692771882969164685865] (.str 16 53347628022020985966110930352598098473) := fact_of_run rfR_ok rfl rfl ex4_run
theorem ex5_run : retV (enter (run (hooksR rfR) 1000000) 6 [.str 39 1316744554376739428906779222711664915034109598532439920421804854769412729674267325485916693033] wS) (.str 19 763027444215997433970768865136163675516445218) = true := by kernel_rfl
theorem ex5 : HookFact 6 [.str 39 1316744554376739428906779222711664915034109598532439920421804854769412729674267325485916693033] (.str 19 763027444215997433970768865136163675516445218) := fact_of_run rfR_ok rfl rfl ex5_run
theorem ex6_run : retV (enter (run (hooksR rfR) 1000000) 6 [.str 7 11306416084165161] wS) (.str 34 1199542012956094910783287775919430867497190402948809273297654816657854215382704681) = true := by kernel_rfl
theorem ex6 : HookFact 6 [.str 7 11306416084165161] (.str 34 1199542012956094910783287775919430867497190402948809273297654816657854215382704681) := fact_of_run rfR_ok rfl rfl ex6_run
end Go.Proofs.YtldcnedpfagliaaGreatDoor
