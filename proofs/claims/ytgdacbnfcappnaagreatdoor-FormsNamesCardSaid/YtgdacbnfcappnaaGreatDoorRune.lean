/- utf8.RuneCountInString of ASCII at this seat (the shelf has walked it). -/
import Derived.Test.YtgdacbnfcappnaaGreatDoorEvRc
import Derived.Shelf.Strings.RuneCount
import Derived.KernelRfl
set_option linter.all false
namespace Go.Proofs.YtgdacbnfcappnaaGreatDoor
open Go.Proofs
variable [Go.Ev.Gv]
def lays195_ren : Go.Shelf.Ren := ⟨fun | 195 => 64 | n => n, fun | 9 => 9 | 3 => 3 | 0 => 0 | 4 => 4 | n => n, fun | n => n⟩
theorem lays195 : Go.Proofs.Lays.n195 Tryz.prog lays195_ren := {
  mixed := by kernel_rfl
  f195 := Tryz.func64.trans (congrArg some (by kernel_rfl))
  t0 := Tryz.underlying0
  a0 := Tryz.isAgg0
  z0 := Tryz.sizeOf0
  v0 := Tryz.zeroValue0
  t3 := Tryz.underlying3
  a3 := Tryz.isAgg3
  z3 := Tryz.sizeOf3
  v3 := Tryz.zeroValue3
  t4 := Tryz.underlying4
  a4 := Tryz.isAgg4
  z4 := Tryz.sizeOf4
  v4 := Tryz.zeroValue4
  t9 := Tryz.underlying9
  a9 := Tryz.isAgg9
  z9 := Tryz.sizeOf9
  v9 := Tryz.zeroValue9 }
theorem rc_seat : Go.Ev.RcOk 64 := fun s w h1 h2 => Calls.mono (Go.Proofs.Any.utf8_RuneCountInString_ascii (P := Go.Ev.PP) (ρ := lays195_ren) (by rw [Go.Ev.pp_eq]; exact lays195) s w h1 h2) fun e w2 hp => by
  obtain ⟨he, hw⟩ := hp
  subst hw
  exact ⟨he, Go.Ev.kept_iter _ _ _⟩
end Go.Proofs.YtgdacbnfcappnaaGreatDoor
