/-
  Slices of int: the element's size.
-/
import Derived.Test.YtimkingebjhemaaDoorBase
namespace Go.Proofs.YtimkingebjhemaaDoor
set_option linter.unusedVariables false
set_option linter.unusedSimpArgs false
open Go.RowKit

theorem rowInt : RowT Tryd.prog 22 3 1 8 := RowT.mk' (z := .int .i64 0) Tryd.underlying22 (by kernel_rfl) rfl (by decide)
end Go.Proofs.YtimkingebjhemaaDoor
