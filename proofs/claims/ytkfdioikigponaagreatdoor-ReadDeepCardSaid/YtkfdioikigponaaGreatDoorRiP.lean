import Derived.Test.YtkfdioikigponaaGreatDoorEvO
set_option linter.all false
namespace Go.Ev
/- Integers as they are written: plain facts. -/
theorem decV_append : ∀ (l m : List Int) (a : Int), decV (l ++ m) a = decV m (decV l a)
  | [], _, _ => rfl
  | x :: l, m, a => by show decV (l ++ m) _ = decV m (decV l _); exact decV_append l m _
end Go.Ev
