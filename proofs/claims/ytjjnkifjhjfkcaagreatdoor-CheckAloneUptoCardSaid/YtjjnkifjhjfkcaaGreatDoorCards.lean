/-
  DERIVED. GIVEN WITH THE SEED: THE CARDS: each row of YtjjnkifjhjfkcaaGreatDoorRows.lean that lists a variable, with what it lists TIED to the program's text (the seventh form; the later family's looks); each row that meets fmt, with fmt's text TOLD by the authors' own Lean function (tested against real Go, not proved from fmt's source: count such statements apart). THE CARD IS WHAT COUNTS. Prove the row's statement (the work); the ties are given (YtjjnkifjhjfkcaaGreatDoorTie.lean); close each card by the builder's one call (the guide's Derived/Test/ToyasCard.lean, 'card_holds'). Laid BY PROGRAM, IN A SANDBOX (cutbox-door.mjs). By AI agents, Wed Nov 11 2026. No macro, syntax, notation, axiom, sorry.
-/
import Derived.Test.YtjjnkifjhjfkcaaGreatDoorRows
import GoSem.ClaimSeven
namespace Go.Proofs.YtjjnkifjhjfkcaaGreatDoor
namespace Rows

/-- THE TIED CARD OF 'coffeehouselaw6.CheckAlone'. -/
def checkAloneCard : Claim7 := { stood := { row := checkAloneRow, standIns := [], harness := (true, "802ffea5f50fad9b4e7ad2acac7346741c3ff8f6757ce93125e8142ba9c6d54b"), looks := true }, kinds := [], alts := [], laidByText := true, laidKinds := [.data, .data, .pinned], laidTests := true, laidLooks := .later }
def CheckAloneCardSaid : Prop := Claim7.holds Tryz.pinned (.plain (OpenSpec.ofChange checkAloneSpec)) checkAloneCard

/-- THE TIED CARD OF 'coffeehouselaw6.CheckStraight'. -/
def checkStraightCard : Claim7 := { stood := { row := checkStraightRow, standIns := [], harness := (true, "802ffea5f50fad9b4e7ad2acac7346741c3ff8f6757ce93125e8142ba9c6d54b"), looks := true }, kinds := [], alts := [], laidByText := true, laidKinds := [.data, .data, .pinned], laidTests := true, laidLooks := .later }
def CheckStraightCardSaid : Prop := Claim7.holds Tryz.pinned (.plain (OpenSpec.ofChange checkStraightSpec)) checkStraightCard

/-- THE TIED CARD OF 'coffeehouselaw6.MapsHigher'. -/
def mapsHigherCard : Claim7 := { stood := { row := mapsHigherRow, standIns := [], harness := (true, "802ffea5f50fad9b4e7ad2acac7346741c3ff8f6757ce93125e8142ba9c6d54b"), looks := true }, kinds := [], alts := [], laidByText := true, laidKinds := [.data, .data, .pinned], laidTests := true, laidLooks := .later }
def MapsHigherCardSaid : Prop := Claim7.holds Tryz.pinned (.plain (OpenSpec.ofChange mapsHigherSpec)) mapsHigherCard

/-- THE SECOND FORM's CARD OF 'coffeehouselaw6.CheckAlone'. -/
def checkAloneUptoCard : Claim7 := { stood := { row := checkAloneUptoRow, standIns := [], harness := (true, "802ffea5f50fad9b4e7ad2acac7346741c3ff8f6757ce93125e8142ba9c6d54b"), looks := true }, kinds := [], alts := [], laidByText := true, laidKinds := [.data, .data, .pinned], laidTests := true, laidLooks := .later }
def CheckAloneUptoCardSaid : Prop := Claim7.holds Tryz.pinned (.plain (OpenSpec.upto checkAloneSpec)) checkAloneUptoCard

/-- THE SECOND FORM's CARD OF 'coffeehouselaw6.CheckStraight'. -/
def checkStraightUptoCard : Claim7 := { stood := { row := checkStraightUptoRow, standIns := [], harness := (true, "802ffea5f50fad9b4e7ad2acac7346741c3ff8f6757ce93125e8142ba9c6d54b"), looks := true }, kinds := [], alts := [], laidByText := true, laidKinds := [.data, .data, .pinned], laidTests := true, laidLooks := .later }
def CheckStraightUptoCardSaid : Prop := Claim7.holds Tryz.pinned (.plain (OpenSpec.upto checkStraightSpec)) checkStraightUptoCard

/-- THE SECOND FORM's CARD OF 'coffeehouselaw6.MapsHigher'. -/
def mapsHigherUptoCard : Claim7 := { stood := { row := mapsHigherUptoRow, standIns := [], harness := (true, "802ffea5f50fad9b4e7ad2acac7346741c3ff8f6757ce93125e8142ba9c6d54b"), looks := true }, kinds := [], alts := [], laidByText := true, laidKinds := [.data, .data, .pinned], laidTests := true, laidLooks := .later }
def MapsHigherUptoCardSaid : Prop := Claim7.holds Tryz.pinned (.plain (OpenSpec.upto mapsHigherSpec)) mapsHigherUptoCard
end Rows
end Go.Proofs.YtjjnkifjhjfkcaaGreatDoor
