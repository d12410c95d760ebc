/-
  The walk of the reference's Wrap.
-/
import Derived.Test.YtkobgmacoakelaaGreatDoorBase
import Derived.Test.YtkobgmacoakelaaGreatDoorPWrap
namespace Go.Proofs.YtkobgmacoakelaaGreatDoor
set_option linter.unusedVariables false
set_option linter.unusedSimpArgs false
open Go.RowKit Go.Shelf Go.Lib

set_option maxHeartbeats 400000 in
theorem wrap_calls (n : Int) (w : World) (h0 : -9223372036854775808 ≤ n) (h1 : n ≤ 9223372036854775807) :
    Calls Tryz.prog 9 #[.int .i64 n] w fun e w' => e = .returned (.int .i64 (wrap32 n)) ∧ w = w' := by
  have H0 := Lib.hid h0
  have H1 := Lib.hid h1
  clear h0 h1
  go_enter Tryz.func9, Tryz.ntmps9
  go_wp2
  all_goals go_ret
  · exact ⟨ret_int (wrap_way1 n H0.out H1.out (by assumption) (by assumption)), rfl⟩
  · exact ⟨ret_int (wrap_way2 n H0.out H1.out (by assumption) (by assumption)), rfl⟩
  · exact ⟨ret_int (wrap_way3 n H0.out H1.out (by assumption) (by assumption)), rfl⟩
  · exact ⟨ret_int (wrap_way4 n H0.out H1.out (by assumption) (by assumption)), rfl⟩

theorem wrap32_of64 (n : Int) : wrap32 (wrap64 n) = wrap32 n := by
  rw [wrap32k, wrap32k]; unfold wrap64; omega
end Go.Proofs.YtkobgmacoakelaaGreatDoor
