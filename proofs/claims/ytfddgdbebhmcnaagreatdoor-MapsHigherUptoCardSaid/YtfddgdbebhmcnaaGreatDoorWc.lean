/-
  The walk of world.Check.
-/
import Derived.Test.YtfddgdbebhmcnaaGreatDoorWBase
namespace Go.Proofs.YtfddgdbebhmcnaaGreatDoor
set_option linter.unusedVariables false
set_option linter.unusedSimpArgs false
open Go.RowKit Go.Shelf Go.Lib
end Go.Proofs.YtfddgdbebhmcnaaGreatDoor
