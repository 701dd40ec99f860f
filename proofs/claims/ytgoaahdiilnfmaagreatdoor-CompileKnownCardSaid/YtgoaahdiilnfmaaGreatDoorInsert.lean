/- slices.Insert at ints, at this seat, does what the evaluator takes it to do (the shelf has walked it). -/
import Derived.Test.YtgoaahdiilnfmaaGreatDoorEvIn
import Derived.Test.YtgoaahdiilnfmaaGreatDoorEvGo
import Derived.KernelRfl
set_option linter.all false
namespace Go.Proofs.YtgoaahdiilnfmaaGreatDoor
open Go.Proofs
def lays21_ren : Go.Shelf.Ren := ⟨fun | 21 => 172 | 27 => 213 | 28 => 214 | 35 => 248 | 39 => 260 | n => n, fun | 22 => 50 | 3 => 3 | 4 => 4 | 0 => 0 | n => n, fun | n => n⟩
theorem lays21 : Go.Proofs.Lays2.n21 Tryz.prog lays21_ren := {
  mixed := by kernel_rfl
  f21 := Tryz.func172.trans (congrArg some (by kernel_rfl))
  f27 := Tryz.func213.trans (congrArg some (by kernel_rfl))
  f28 := Tryz.func214.trans (congrArg some (by kernel_rfl))
  f35 := Tryz.func248.trans (congrArg some (by kernel_rfl))
  f39 := Tryz.func260.trans (congrArg some (by kernel_rfl))
  t0 := Tryz.underlying0
  a0 := Tryz.isAgg0
  z0 := Tryz.sizeOf0
  v0 := Tryz.zeroValue0
  t3 := Tryz.underlying3
  a3 := Tryz.isAgg3
  z3 := Tryz.sizeOf3
  v3 := Tryz.zeroValue3
  t4 := Tryz.underlying4
  a4 := Tryz.isAgg4
  z4 := Tryz.sizeOf4
  v4 := Tryz.zeroValue4
  t22 := Tryz.underlying50
  a22 := Tryz.isAgg50
  z22 := Tryz.sizeOf50
  v22 := Tryz.zeroValue50
  i3 := by kernel_rfl }
theorem ins_seat : Go.Ev.InsOk 172 := Go.Ev.ins_of_shelf (r := lays21_ren) (by rw [Go.Ev.pp_eq]; exact lays21)
end Go.Proofs.YtgoaahdiilnfmaaGreatDoor
