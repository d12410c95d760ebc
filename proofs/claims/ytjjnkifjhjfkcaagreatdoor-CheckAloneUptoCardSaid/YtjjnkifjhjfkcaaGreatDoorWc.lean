/-
  The walk of world.Check.
-/
import Derived.Test.YtjjnkifjhjfkcaaGreatDoorWBase
namespace Go.Proofs.YtjjnkifjhjfkcaaGreatDoor
set_option linter.unusedVariables false
set_option linter.unusedSimpArgs false
open Go.RowKit Go.Shelf Go.Lib

set_option maxRecDepth 100000 in
set_option maxHeartbeats 1000000 in
theorem wcheck_calls (l : List ClassR) (ps : List CAddr) (a : Option Addr) (cap : Nat) (w : World) (hC : ClassesAt w a cap l ps) (hF : FormsAt w) (hB : ClsOk l) :
    Calls Tryz.prog 7 #[.slice a l.length cap] w fun e w' => e = .returned (errOf (readErr l)) ∧ Below w.heap.size w w' := by
  have HR := Lib.hid (read_calls l ps a cap w hC hF hB)
  clear hC hF hB
  go_enter Tryz.func7, Tryz.ntmps7
  go_wp2_with fail
  refine HR.out.mono ?_
  rintro e w2 ⟨hb2, ⟨hne, rfl⟩ | ⟨hg, b, rfl, _, _⟩⟩
  · have HB2 := Lib.hid hb2
    have HEE := Lib.hid (errOf_ne hne)
    clear hb2 hne
    go_wp2_with fail
    go_ret
    exact ⟨by rw [HEE.out]; rfl, HB2.out⟩
  · have HB2 := Lib.hid hb2
    have HEE := Lib.hid (show errOf (readErr l) = .nilIface by rw [good_read hg]; rfl)
    clear hb2 hg
    go_wp2_with fail
    go_ret
    exact ⟨by rw [HEE.out]; rfl, HB2.out⟩
end Go.Proofs.YtjjnkifjhjfkcaaGreatDoor
