/-
  Slices of int: the element's size.
-/
import Derived.Test.YtjjnkifjhjfkcaaGreatDoorBase
namespace Go.Proofs.YtjjnkifjhjfkcaaGreatDoor
set_option linter.unusedVariables false
set_option linter.unusedSimpArgs false
open Go.RowKit

theorem rowInt : RowT Tryz.prog 92 3 1 8 := RowT.mk' (z := .int .i64 0) Tryz.underlying92 (by kernel_rfl) rfl (by decide)
end Go.Proofs.YtjjnkifjhjfkcaaGreatDoor
