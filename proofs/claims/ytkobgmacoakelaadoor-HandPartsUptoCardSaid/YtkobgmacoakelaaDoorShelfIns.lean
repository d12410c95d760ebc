/-
  The kit's contracts of slices.Insert at []string, laid (printed by the kit's own two tools out of a scratch text that names them; the numbers by their names).
-/
import Derived.Shelf.Spec.SlicesInsert
import Derived.Shelf.Spec.SlicesInsertGrow
import Derived.Ground.Names2Prog
import Derived.Test.YtkobgmacoakelaaDoorProg
namespace Go.Proofs
open Go.Shelf
def Tryd.laysNm222_ren : Go.Shelf.Ren := ⟨fun | 22 => 33 | 29 => 46 | 30 => 47 | 36 => 58 | 17 => 67 | n => n, fun | 24 => 42 | 9 => 9 | 3 => 3 | 4 => 4 | 0 => 0 | n => n, fun | n => n⟩
theorem Tryd.laysNm222 : Go.Proofs.Lays2.n22 Tryd.prog Tryd.laysNm222_ren := {
  mixed := by kernel_rfl
  f17 := Tryd.func67.trans (congrArg some (by kernel_rfl))
  f22 := Tryd.func33.trans (congrArg some (by kernel_rfl))
  f29 := Tryd.func46.trans (congrArg some (by kernel_rfl))
  f30 := Tryd.func47.trans (congrArg some (by kernel_rfl))
  f36 := Tryd.func58.trans (congrArg some (by kernel_rfl))
  t0 := Tryd.underlying0
  a0 := Tryd.isAgg0
  z0 := Tryd.sizeOf0
  v0 := Tryd.zeroValue0
  t3 := Tryd.underlying3
  a3 := Tryd.isAgg3
  z3 := Tryd.sizeOf3
  v3 := Tryd.zeroValue3
  t4 := Tryd.underlying4
  a4 := Tryd.isAgg4
  z4 := Tryd.sizeOf4
  v4 := Tryd.zeroValue4
  t9 := Tryd.underlying9
  a9 := Tryd.isAgg9
  z9 := Tryd.sizeOf9
  v9 := Tryd.zeroValue9
  t24 := Tryd.underlying42
  a24 := Tryd.isAgg42
  z24 := Tryd.sizeOf42
  v24 := Tryd.zeroValue42
  i9 := by kernel_rfl }
end Go.Proofs
