import Derived.Test.YtkfdioikigponaaGreatDoorEvFr
import Derived.Laws.RangeString
set_option linter.all false
namespace Go.Ev
variable [Gv]
/- utf8.RuneCountInString of strings of ASCII, by its contract. -/
end Go.Ev
