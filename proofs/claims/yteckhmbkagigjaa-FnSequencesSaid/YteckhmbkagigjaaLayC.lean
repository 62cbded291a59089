/- The kit's library contracts laid over this program, written out by the kit's tool. Conditions: none. -/
import Derived.Shelf.Slices.Delete
import Derived.Test.YteckhmbkagigjaaBase
namespace Go.Proofs
open Go.Shelf
def Yteckhmbkagigjaalays23_ren : Go.Shelf.Ren := ⟨fun | 23 => 48 | n => n, fun | 22 => 22 | 3 => 3 | 4 => 4 | 0 => 0 | n => n, fun | n => n⟩
theorem Yteckhmbkagigjaalays23 : Go.Proofs.Lays2.n23 Try.prog Yteckhmbkagigjaalays23_ren := {
  mixed := by kernel_rfl
  f23 := Try.func48.trans (congrArg some (by kernel_rfl))
  t0 := Try.underlying0
  a0 := Try.isAgg0
  z0 := Try.sizeOf0
  v0 := Try.zeroValue0
  t3 := Try.underlying3
  a3 := Try.isAgg3
  z3 := Try.sizeOf3
  v3 := Try.zeroValue3
  t4 := Try.underlying4
  a4 := Try.isAgg4
  z4 := Try.sizeOf4
  v4 := Try.zeroValue4
  t22 := Try.underlying22
  a22 := Try.isAgg22
  z22 := Try.sizeOf22
  v22 := Try.zeroValue22
  i3 := by kernel_rfl }
end Go.Proofs
