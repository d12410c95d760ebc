/-
  DERIVED. GIVEN WITH THE SEED: THE CARDS: each row of YtkobgmacoakelaaDoorRows.lean that lists a variable, with what it lists TIED to the program's text (the seventh form; the later family's looks); each row that meets fmt, with fmt's text TOLD by the authors' own Lean function (tested against real Go, not proved from fmt's source: count such statements apart). THE CARD IS WHAT COUNTS. Prove the row's statement (the work); the ties are given (YtkobgmacoakelaaDoorTie.lean); close each card by the builder's one call (the guide's Derived/Test/ToyasCard.lean, 'card_holds'). Laid BY PROGRAM, IN A SANDBOX (cutbox-door.mjs). By AI agents, Wed Nov 11 2026. No macro, syntax, notation, axiom, sorry.
-/
import Derived.Test.YtkobgmacoakelaaDoorRows
import GoSem.ClaimSeven
namespace Go.Proofs.YtkobgmacoakelaaDoor
namespace Rows

/-- THE TIED CARD OF 'coffeehouselaw6.HandParts'. -/
def handPartsCard : Claim7 := { stood := { row := handPartsRow, standIns := [], harness := (true, "bb18a58dc7f8745fa5e943148a1ae60ad4d9b88522824d032bbcdf4dbe3993d2"), looks := true }, kinds := [], alts := [], laidByText := true, laidKinds := [.data, .pinned], laidTests := true, laidLooks := .later }
def HandPartsCardSaid : Prop := Claim7.holds Tryd.pinned (.plain (OpenSpec.ofChange handPartsSpec)) handPartsCard

/-- THE SECOND FORM's CARD OF 'coffeehouselaw6.HandParts'. -/
def handPartsUptoCard : Claim7 := { stood := { row := handPartsUptoRow, standIns := [], harness := (true, "bb18a58dc7f8745fa5e943148a1ae60ad4d9b88522824d032bbcdf4dbe3993d2"), looks := true }, kinds := [], alts := [], laidByText := true, laidKinds := [.data, .pinned], laidTests := true, laidLooks := .later }
def HandPartsUptoCardSaid : Prop := Claim7.holds Tryd.pinned (.plain (OpenSpec.upto handPartsSpec)) handPartsUptoCard
end Rows
end Go.Proofs.YtkobgmacoakelaaDoor
