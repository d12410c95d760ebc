import Derived.Shelf.Spec.SlicesInsertGrow
import Derived.Test.YtbnkckjdgpiggaaGreatDoorProg
namespace Go.Proofs
open Go.Shelf
def Tryz.laysNm221_ren : Go.Shelf.Ren := ⟨fun | 21 => 39 | 27 => 68 | 28 => 69 | 35 => 113 | 39 => 152 | n => n, fun | 22 => 22 | 3 => 3 | 4 => 4 | 0 => 0 | n => n, fun | n => n⟩
theorem Tryz.laysNm221 : Go.Proofs.Lays2.n21 Tryz.prog Tryz.laysNm221_ren := {
 mixed := by kernel_rfl
 f21 := Tryz.func39.trans (congrArg some (by kernel_rfl))
 f27 := Tryz.func68.trans (congrArg some (by kernel_rfl))
 f28 := Tryz.func69.trans (congrArg some (by kernel_rfl))
 f35 := Tryz.func113.trans (congrArg some (by kernel_rfl))
 f39 := Tryz.func152.trans (congrArg some (by kernel_rfl))
 t0 := Tryz.underlying0
 a0 := Tryz.isAgg0
 z0 := Tryz.sizeOf0
 v0 := Tryz.zeroValue0
 t3 := Tryz.underlying3
 a3 := Tryz.isAgg3
 z3 := Tryz.sizeOf3
 v3 := Tryz.zeroValue3
 t4 := Tryz.underlying4
 a4 := Tryz.isAgg4
 z4 := Tryz.sizeOf4
 v4 := Tryz.zeroValue4
 t22 := Tryz.underlying22
 a22 := Tryz.isAgg22
 z22 := Tryz.sizeOf22
 v22 := Tryz.zeroValue22
 i3 := by kernel_rfl }
end Go.Proofs
