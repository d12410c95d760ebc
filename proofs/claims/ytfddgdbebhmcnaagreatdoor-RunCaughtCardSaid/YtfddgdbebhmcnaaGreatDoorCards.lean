/-
  DERIVED. GIVEN WITH THE SEED: THE CARDS: each row of YtfddgdbebhmcnaaGreatDoorRows.lean that lists a variable, with what it lists TIED to the program's text (the seventh form; the later family's looks); each row that meets fmt, with fmt's text TOLD by the authors' own Lean function (tested against real Go, not proved from fmt's source: count such statements apart). THE CARD IS WHAT COUNTS. Prove the row's statement (the work); the ties are given (YtfddgdbebhmcnaaGreatDoorTie.lean); close each card by the builder's one call (the guide's Derived/Test/ToyasCard.lean, 'card_holds'). Laid BY PROGRAM, IN A SANDBOX (cutbox-door.mjs). By AI agents, Wed Nov 11 2026. No macro, syntax, notation, axiom, sorry.
-/
import Derived.Test.YtfddgdbebhmcnaaGreatDoorRows
import GoSem.ClaimSeven
namespace Go.Proofs.YtfddgdbebhmcnaaGreatDoor
namespace Rows

/-- THE TIED CARD OF 'coffeehousetop.TopFields'. -/
def topFieldsCard : Claim7 := { stood := { row := topFieldsRow, standIns := [], harness := (true, "b6654a0918101e118152ea72d89666af7d5e2649c96614d12e2705849f148da5"), looks := true }, kinds := [], alts := [], laidByText := true, laidKinds := [.data, .data, .pinned], laidTests := true, laidLooks := .later }
def TopFieldsCardSaid : Prop := Claim7.holds Tryz.pinned (.plain (OpenSpec.ofChange topFieldsSpec)) topFieldsCard

/-- THE TIED CARD OF 'coffeehouselaw6.CheckStraight'. -/
def checkStraightCard : Claim7 := { stood := { row := checkStraightRow, standIns := [], harness := (true, "b6654a0918101e118152ea72d89666af7d5e2649c96614d12e2705849f148da5"), looks := true }, kinds := [], alts := [], laidByText := true, laidKinds := [.data, .data, .pinned], laidTests := true, laidLooks := .later }
def CheckStraightCardSaid : Prop := Claim7.holds Tryz.pinned (.plain (OpenSpec.ofChange checkStraightSpec)) checkStraightCard

/-- THE TIED CARD OF 'coffeehouselaw6.MapsHigher'. -/
def mapsHigherCard : Claim7 := { stood := { row := mapsHigherRow, standIns := [], harness := (true, "b6654a0918101e118152ea72d89666af7d5e2649c96614d12e2705849f148da5"), looks := true }, kinds := [], alts := [], laidByText := true, laidKinds := [.data, .data, .pinned], laidTests := true, laidLooks := .later }
def MapsHigherCardSaid : Prop := Claim7.holds Tryz.pinned (.plain (OpenSpec.ofChange mapsHigherSpec)) mapsHigherCard

/-- THE TIED CARD OF 'coffeehouselaw6.RunGives'. -/
def runGivesCard : Claim7 := { stood := { row := runGivesRow, standIns := [], harness := (true, "b6654a0918101e118152ea72d89666af7d5e2649c96614d12e2705849f148da5"), looks := true }, kinds := [], alts := [], laidByText := true, laidKinds := [.data, .data, .pinned], laidTests := true, laidLooks := .later }
def RunGivesCardSaid : Prop := Claim7.holds Tryz.pinned (.plain (OpenSpec.ofChange runGivesSpec)) runGivesCard

/-- THE TIED CARD OF 'coffeehouselaw6.RunCaught'. -/
def runCaughtCard : Claim7 := { stood := { row := runCaughtRow, standIns := [], harness := (true, "b6654a0918101e118152ea72d89666af7d5e2649c96614d12e2705849f148da5"), looks := true }, kinds := [], alts := [], laidByText := true, laidKinds := [.data, .data, .pinned], laidTests := true, laidLooks := .later }
def RunCaughtCardSaid : Prop := Claim7.holds Tryz.pinned (.plain (OpenSpec.ofChange runCaughtSpec)) runCaughtCard

/-- THE SECOND FORM's CARD OF 'coffeehousetop.TopFields'. -/
def topFieldsUptoCard : Claim7 := { stood := { row := topFieldsUptoRow, standIns := [], harness := (true, "b6654a0918101e118152ea72d89666af7d5e2649c96614d12e2705849f148da5"), looks := true }, kinds := [], alts := [], laidByText := true, laidKinds := [.data, .data, .pinned], laidTests := true, laidLooks := .later }
def TopFieldsUptoCardSaid : Prop := Claim7.holds Tryz.pinned (.plain (OpenSpec.upto topFieldsSpec)) topFieldsUptoCard

/-- THE SECOND FORM's CARD OF 'coffeehouselaw6.CheckStraight'. -/
def checkStraightUptoCard : Claim7 := { stood := { row := checkStraightUptoRow, standIns := [], harness := (true, "b6654a0918101e118152ea72d89666af7d5e2649c96614d12e2705849f148da5"), looks := true }, kinds := [], alts := [], laidByText := true, laidKinds := [.data, .data, .pinned], laidTests := true, laidLooks := .later }
def CheckStraightUptoCardSaid : Prop := Claim7.holds Tryz.pinned (.plain (OpenSpec.upto checkStraightSpec)) checkStraightUptoCard

/-- THE SECOND FORM's CARD OF 'coffeehouselaw6.MapsHigher'. -/
def mapsHigherUptoCard : Claim7 := { stood := { row := mapsHigherUptoRow, standIns := [], harness := (true, "b6654a0918101e118152ea72d89666af7d5e2649c96614d12e2705849f148da5"), looks := true }, kinds := [], alts := [], laidByText := true, laidKinds := [.data, .data, .pinned], laidTests := true, laidLooks := .later }
def MapsHigherUptoCardSaid : Prop := Claim7.holds Tryz.pinned (.plain (OpenSpec.upto mapsHigherSpec)) mapsHigherUptoCard

/-- THE SECOND FORM's CARD OF 'coffeehouselaw6.RunGives'. -/
def runGivesUptoCard : Claim7 := { stood := { row := runGivesUptoRow, standIns := [], harness := (true, "b6654a0918101e118152ea72d89666af7d5e2649c96614d12e2705849f148da5"), looks := true }, kinds := [], alts := [], laidByText := true, laidKinds := [.data, .data, .pinned], laidTests := true, laidLooks := .later }
def RunGivesUptoCardSaid : Prop := Claim7.holds Tryz.pinned (.plain (OpenSpec.upto runGivesSpec)) runGivesUptoCard

/-- THE SECOND FORM's CARD OF 'coffeehouselaw6.RunCaught'. -/
def runCaughtUptoCard : Claim7 := { stood := { row := runCaughtUptoRow, standIns := [], harness := (true, "b6654a0918101e118152ea72d89666af7d5e2649c96614d12e2705849f148da5"), looks := true }, kinds := [], alts := [], laidByText := true, laidKinds := [.data, .data, .pinned], laidTests := true, laidLooks := .later }
def RunCaughtUptoCardSaid : Prop := Claim7.holds Tryz.pinned (.plain (OpenSpec.upto runCaughtSpec)) runCaughtUptoCard
end Rows
end Go.Proofs.YtfddgdbebhmcnaaGreatDoor
