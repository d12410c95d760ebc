import Derived.Test.YtfimajijegohmaaGreatDoorBase
namespace Go.Proofs.YtfimajijegohmaaGreatDoor
set_option linter.unusedVariables false
set_option linter.unusedSimpArgs false
open Go.RowKit
theorem rowInt : RowT Tryz.prog 50 3 1 8 := RowT.mk' (z := .int .i64 0) Tryz.underlying50 (by kernel_rfl) rfl (by decide)
end Go.Proofs.YtfimajijegohmaaGreatDoor
