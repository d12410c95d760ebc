/-
  Slices of int: the element's size.
-/
import Derived.Test.YtfddgdbebhmcnaaGreatDoorBase
namespace Go.Proofs.YtfddgdbebhmcnaaGreatDoor
set_option linter.unusedVariables false
set_option linter.unusedSimpArgs false
open Go.RowKit
theorem rowInt : RowT Tryz.prog 151 3 1 8 := RowT.mk' (z := .int .i64 0) Tryz.underlying151 (by kernel_rfl) rfl (by decide)
end Go.Proofs.YtfddgdbebhmcnaaGreatDoor
