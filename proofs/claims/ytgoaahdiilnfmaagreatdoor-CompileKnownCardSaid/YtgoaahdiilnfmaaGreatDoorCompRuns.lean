/- CompileKnown returns true: a closed run that uses the runs of the examples. -/
import Derived.Test.YtgoaahdiilnfmaaGreatDoorCompR0
import Derived.Test.YtgoaahdiilnfmaaGreatDoorCompR1
import Derived.Test.YtgoaahdiilnfmaaGreatDoorCompR2
import Derived.Test.YtgoaahdiilnfmaaGreatDoorCompR3
set_option linter.all false
set_option maxRecDepth 100000
namespace Go.Proofs.YtgoaahdiilnfmaaGreatDoor
open Go.Ev
noncomputable def coH : List HE := [.mk 5 [.str 14 819883177981117962251054031593769, .int .i64 1, .int .i64 1, .int .i64 2, .str 35 754569857173906170474982799893747567278470848221032490257952883899328945079654182410, .str 1 97] (.bool true), .mk 5 [.str 29 1089811673445608897145315650307515702034888752968175472203589634631977, .int .i64 0, .int .i64 (-1), .int .i64 2, .str 68 22367544380843489140507428854765223917752610227954521687744593168222348047002707751731287445824710543421779578396398049732932518178939712733673313152125433290059274, .str 7 32136664120565810] (.bool true), .mk 5 [.str 35 306754715402103806233621120669562789413881099774367681165671295986536735354642377001, .int .i64 1, .int .i64 2, .int .i64 5, .str 78 27040701923378055693408620782759923605163572225843935543020815580568016531689110340105421627866759011624374350154937555843897507138098548773634941739897055401644829605693724890574173138442, .str 10 458883539053673506763636] (.bool true), .mk 5 [.str 34 1197223457329150518497791158839462395037699992502156859587073117015480945492764969, .int .i64 0, .int .i64 0, .int .i64 3, .str 43 13919352721722106462156981939423141309999209893288781666667593263553456391700745825223038052514921606666, .str 10 191110587429901793239094] (.bool true), .mk 5 [.str 27 16629206442956678729980516471276454302085245598334545913659861289, .int .i64 0, .int .i64 0, .int .i64 1, .str 23 9715206628777311067512309304899504331827154203484253706, .str 12 34170799120961529297101682985] (.bool true), .mk 7 [.str 23 3871788839566679375707292107696713031637211338660915497, .int .i64 5] (.bool true), .mk 7 [.str 22 15124175154557341311356609795690266548141328232950057, .int .i64 5] (.bool true), .mk 7 [.str 1 53, .int .i64 6] (.bool true), .mk 7 [.str 16 53731863952170546774085067397157368105, .int .i64 5] (.bool true)]
theorem coH_ok : HookOk (hooks coH) := hooks_ok coH fun f vs v h => by
  simp only [coH, List.mem_cons, List.not_mem_nil, or_false, HE.mk.injEq] at h
  rcases h with ⟨rfl, rfl, rfl⟩ | ⟨rfl, rfl, rfl⟩ | ⟨rfl, rfl, rfl⟩ | ⟨rfl, rfl, rfl⟩ | ⟨rfl, rfl, rfl⟩ | ⟨rfl, rfl, rfl⟩ | ⟨rfl, rfl, rfl⟩ | ⟨rfl, rfl, rfl⟩ | ⟨rfl, rfl, rfl⟩
  · exact co0
  · exact co1
  · exact co2
  · exact co3
  · exact co4
  · exact co5
  · exact co6
  · exact co7
  · exact co8
theorem known_run : retV (enter (run (hooks coH) 1000000) 3 [] wS) (.bool true) = true := by kernel_rfl
theorem known_fact : HookFact 3 [] (.bool true) := fact_of_run coH_ok rfl rfl known_run
end Go.Proofs.YtgoaahdiilnfmaaGreatDoor
