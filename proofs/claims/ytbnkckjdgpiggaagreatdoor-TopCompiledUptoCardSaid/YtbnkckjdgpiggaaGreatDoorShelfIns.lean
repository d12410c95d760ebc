import Derived.Shelf.Spec.SlicesInsertGrow
import Derived.Test.YtbnkckjdgpiggaaGreatDoorProg
namespace Go.Proofs
open Go.Shelf
def Tryz.laysNm222_ren : Go.Shelf.Ren := ⟨fun | 22 => 102 | 29 => 143 | 30 => 144 | 36 => 179 | 17 => 209 | n => n, fun | 24 => 35 | 9 => 9 | 3 => 3 | 4 => 4 | 0 => 0 | n => n, fun | n => n⟩
theorem Tryz.laysNm222 : Go.Proofs.Lays2.n22 Tryz.prog Tryz.laysNm222_ren := {
 mixed := by kernel_rfl
 f17 := Tryz.func209.trans (congrArg some (by kernel_rfl))
 f22 := Tryz.func102.trans (congrArg some (by kernel_rfl))
 f29 := Tryz.func143.trans (congrArg some (by kernel_rfl))
 f30 := Tryz.func144.trans (congrArg some (by kernel_rfl))
 f36 := Tryz.func179.trans (congrArg some (by kernel_rfl))
 t0 := Tryz.underlying0
 a0 := Tryz.isAgg0
 z0 := Tryz.sizeOf0
 v0 := Tryz.zeroValue0
 t3 := Tryz.underlying3
 a3 := Tryz.isAgg3
 z3 := Tryz.sizeOf3
 v3 := Tryz.zeroValue3
 t4 := Tryz.underlying4
 a4 := Tryz.isAgg4
 z4 := Tryz.sizeOf4
 v4 := Tryz.zeroValue4
 t9 := Tryz.underlying9
 a9 := Tryz.isAgg9
 z9 := Tryz.sizeOf9
 v9 := Tryz.zeroValue9
 t24 := Tryz.underlying35
 a24 := Tryz.isAgg35
 z24 := Tryz.sizeOf35
 v24 := Tryz.zeroValue35
 i9 := by kernel_rfl }
end Go.Proofs
