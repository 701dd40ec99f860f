/- Some of the examples of CompileKnown, each by a closed run. -/
import Derived.Test.YtgoaahdiilnfmaaGreatDoorInsert
set_option linter.all false
set_option maxRecDepth 100000
namespace Go.Proofs.YtgoaahdiilnfmaaGreatDoor
open Go.Ev
theorem co_run0 : retV (enter (run (insH 172) 1000000) 5 [.str 14 819883177981117962251054031593769, .int .i64 1, .int .i64 1, .int .i64 2, .str 35 754569857173906170474982799893747567278470848221032490257952883899328945079654182410, .str 1 97] wS) (.bool true) = true := by kernel_rfl
theorem co0 : HookFact 5 [.str 14 819883177981117962251054031593769, .int .i64 1, .int .i64 1, .int .i64 2, .str 35 754569857173906170474982799893747567278470848221032490257952883899328945079654182410, .str 1 97] (.bool true) := fact_of_run (insH_ok ins_seat) rfl rfl co_run0
theorem co_run5 : retV (enter (run (insH 172) 1000000) 7 [.str 23 3871788839566679375707292107696713031637211338660915497, .int .i64 5] wS) (.bool true) = true := by kernel_rfl
theorem co5 : HookFact 7 [.str 23 3871788839566679375707292107696713031637211338660915497, .int .i64 5] (.bool true) := fact_of_run (insH_ok ins_seat) rfl rfl co_run5
theorem co_run7 : retV (enter (run (insH 172) 1000000) 7 [.str 1 53, .int .i64 6] wS) (.bool true) = true := by kernel_rfl
theorem co7 : HookFact 7 [.str 1 53, .int .i64 6] (.bool true) := fact_of_run (insH_ok ins_seat) rfl rfl co_run7
end Go.Proofs.YtgoaahdiilnfmaaGreatDoor
