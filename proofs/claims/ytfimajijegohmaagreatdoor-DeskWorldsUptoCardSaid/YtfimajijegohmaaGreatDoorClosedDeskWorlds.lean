/-
  DeskWorlds: the closed facts of its row, one by one (printed by a program of mine, gen_law.py).
-/
import Derived.Test.YtfimajijegohmaaGreatDoorCards
import Derived.Test.YtfimajijegohmaaGreatDoorTie
import Derived.Test.YtfimajijegohmaaGreatDoorFrame
namespace Go.Proofs.YtfimajijegohmaaGreatDoor.deskWorlds
set_option linter.unusedVariables false
set_option linter.unusedSimpArgs false
open Go.ChangeShapes Go.WideShapes Go.ChangeAt Go.RowKit
theorem and_t {a b : Bool} (h : a = true) (k : b = true) : (a && b) = true := by rw [h, k]; rfl
set_option maxRecDepth 100000 in
set_option maxHeartbeats 4000000 in
theorem closed : joinedFacts Tryz.pinned.checked.prog 6 Tryz.f6 (Rows.OpenSpec.upto Rows.deskWorldsSpec).bare Rows.deskWorldsUptoRow = true := by
  unfold joinedFacts
  repeat' (with_reducible refine and_t ?_ ?_)
  all_goals (as_aux_lemma => kernel_rfl)
end Go.Proofs.YtfimajijegohmaaGreatDoor.deskWorlds
