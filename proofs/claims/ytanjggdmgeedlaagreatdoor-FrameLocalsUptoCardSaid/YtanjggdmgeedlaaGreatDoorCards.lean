/-
  DERIVED. GIVEN WITH THE SEED: THE CARDS: each row of YtanjggdmgeedlaaGreatDoorRows.lean that lists a variable, with what it lists TIED to the program's text (the seventh form; the later family's looks); each row that meets fmt, with fmt's text TOLD by the authors' own Lean function (tested against real Go, not proved from fmt's source: count such statements apart). THE CARD IS WHAT COUNTS. Prove the row's statement (the work); the ties are given (YtanjggdmgeedlaaGreatDoorTie.lean); close each card by the builder's one call (the guide's Derived/Test/ToyasCard.lean, 'card_holds'). Laid BY PROGRAM, IN A SANDBOX (cutbox-door.mjs). By AI agents, Wed Nov 11 2026. No macro, syntax, notation, axiom, sorry.
-/
import Derived.Test.YtanjggdmgeedlaaGreatDoorRows
import GoSem.ClaimSeven
namespace Go.Proofs.YtanjggdmgeedlaaGreatDoor
namespace Rows

/-- THE TIED CARD OF 'coffeehouselaw6.HeapLists'. -/
def heapListsCard : Claim7 := { stood := { row := heapListsRow, standIns := [], harness := (true, "cf3be40ae828581684df4182c88f72a2cfd28180783f387709db281ecf2b0953"), looks := true }, kinds := [], alts := [], laidByText := true, laidKinds := [.data, .data, .pinned], laidTests := true, laidLooks := .later }
def HeapListsCardSaid : Prop := Claim7.holds Tryz.pinned (.plain (OpenSpec.ofChange heapListsSpec)) heapListsCard

/-- THE TIED CARD OF 'coffeehouselaw6.SweepNone'. -/
def sweepNoneCard : Claim7 := { stood := { row := sweepNoneRow, standIns := [], harness := (true, "cf3be40ae828581684df4182c88f72a2cfd28180783f387709db281ecf2b0953"), looks := true }, kinds := [], alts := [], laidByText := true, laidKinds := [.data, .data, .pinned], laidTests := true, laidLooks := .later }
def SweepNoneCardSaid : Prop := Claim7.holds Tryz.pinned (.plain (OpenSpec.ofChange sweepNoneSpec)) sweepNoneCard

/-- THE TIED CARD OF 'coffeehouselaw6.FrameLocals'. -/
def frameLocalsCard : Claim7 := { stood := { row := frameLocalsRow, standIns := [], harness := (true, "cf3be40ae828581684df4182c88f72a2cfd28180783f387709db281ecf2b0953"), looks := true }, kinds := [], alts := [], laidByText := true, laidKinds := [.data, .data, .pinned], laidTests := true, laidLooks := .later }
def FrameLocalsCardSaid : Prop := Claim7.holds Tryz.pinned (.plain (OpenSpec.ofChange frameLocalsSpec)) frameLocalsCard

/-- THE TIED CARD OF 'coffeehouselaw6.CheckAlone'. -/
def checkAloneCard : Claim7 := { stood := { row := checkAloneRow, standIns := [], harness := (true, "cf3be40ae828581684df4182c88f72a2cfd28180783f387709db281ecf2b0953"), looks := true }, kinds := [], alts := [], laidByText := true, laidKinds := [.data, .data, .pinned], laidTests := true, laidLooks := .later }
def CheckAloneCardSaid : Prop := Claim7.holds Tryz.pinned (.plain (OpenSpec.ofChange checkAloneSpec)) checkAloneCard

/-- THE TIED CARD OF 'coffeehouselaw6.CheckStraight'. -/
def checkStraightCard : Claim7 := { stood := { row := checkStraightRow, standIns := [], harness := (true, "cf3be40ae828581684df4182c88f72a2cfd28180783f387709db281ecf2b0953"), looks := true }, kinds := [], alts := [], laidByText := true, laidKinds := [.data, .data, .pinned], laidTests := true, laidLooks := .later }
def CheckStraightCardSaid : Prop := Claim7.holds Tryz.pinned (.plain (OpenSpec.ofChange checkStraightSpec)) checkStraightCard

/-- THE TIED CARD OF 'coffeehouselaw6.MapsHigher'. -/
def mapsHigherCard : Claim7 := { stood := { row := mapsHigherRow, standIns := [], harness := (true, "cf3be40ae828581684df4182c88f72a2cfd28180783f387709db281ecf2b0953"), looks := true }, kinds := [], alts := [], laidByText := true, laidKinds := [.data, .data, .pinned], laidTests := true, laidLooks := .later }
def MapsHigherCardSaid : Prop := Claim7.holds Tryz.pinned (.plain (OpenSpec.ofChange mapsHigherSpec)) mapsHigherCard

/-- THE SECOND FORM's CARD OF 'coffeehouselaw6.HeapLists'. -/
def heapListsUptoCard : Claim7 := { stood := { row := heapListsUptoRow, standIns := [], harness := (true, "cf3be40ae828581684df4182c88f72a2cfd28180783f387709db281ecf2b0953"), looks := true }, kinds := [], alts := [], laidByText := true, laidKinds := [.data, .data, .pinned], laidTests := true, laidLooks := .later }
def HeapListsUptoCardSaid : Prop := Claim7.holds Tryz.pinned (.plain (OpenSpec.upto heapListsSpec)) heapListsUptoCard

/-- THE SECOND FORM's CARD OF 'coffeehouselaw6.SweepNone'. -/
def sweepNoneUptoCard : Claim7 := { stood := { row := sweepNoneUptoRow, standIns := [], harness := (true, "cf3be40ae828581684df4182c88f72a2cfd28180783f387709db281ecf2b0953"), looks := true }, kinds := [], alts := [], laidByText := true, laidKinds := [.data, .data, .pinned], laidTests := true, laidLooks := .later }
def SweepNoneUptoCardSaid : Prop := Claim7.holds Tryz.pinned (.plain (OpenSpec.upto sweepNoneSpec)) sweepNoneUptoCard

/-- THE SECOND FORM's CARD OF 'coffeehouselaw6.FrameLocals'. -/
def frameLocalsUptoCard : Claim7 := { stood := { row := frameLocalsUptoRow, standIns := [], harness := (true, "cf3be40ae828581684df4182c88f72a2cfd28180783f387709db281ecf2b0953"), looks := true }, kinds := [], alts := [], laidByText := true, laidKinds := [.data, .data, .pinned], laidTests := true, laidLooks := .later }
def FrameLocalsUptoCardSaid : Prop := Claim7.holds Tryz.pinned (.plain (OpenSpec.upto frameLocalsSpec)) frameLocalsUptoCard

/-- THE SECOND FORM's CARD OF 'coffeehouselaw6.CheckAlone'. -/
def checkAloneUptoCard : Claim7 := { stood := { row := checkAloneUptoRow, standIns := [], harness := (true, "cf3be40ae828581684df4182c88f72a2cfd28180783f387709db281ecf2b0953"), looks := true }, kinds := [], alts := [], laidByText := true, laidKinds := [.data, .data, .pinned], laidTests := true, laidLooks := .later }
def CheckAloneUptoCardSaid : Prop := Claim7.holds Tryz.pinned (.plain (OpenSpec.upto checkAloneSpec)) checkAloneUptoCard

/-- THE SECOND FORM's CARD OF 'coffeehouselaw6.CheckStraight'. -/
def checkStraightUptoCard : Claim7 := { stood := { row := checkStraightUptoRow, standIns := [], harness := (true, "cf3be40ae828581684df4182c88f72a2cfd28180783f387709db281ecf2b0953"), looks := true }, kinds := [], alts := [], laidByText := true, laidKinds := [.data, .data, .pinned], laidTests := true, laidLooks := .later }
def CheckStraightUptoCardSaid : Prop := Claim7.holds Tryz.pinned (.plain (OpenSpec.upto checkStraightSpec)) checkStraightUptoCard

/-- THE SECOND FORM's CARD OF 'coffeehouselaw6.MapsHigher'. -/
def mapsHigherUptoCard : Claim7 := { stood := { row := mapsHigherUptoRow, standIns := [], harness := (true, "cf3be40ae828581684df4182c88f72a2cfd28180783f387709db281ecf2b0953"), looks := true }, kinds := [], alts := [], laidByText := true, laidKinds := [.data, .data, .pinned], laidTests := true, laidLooks := .later }
def MapsHigherUptoCardSaid : Prop := Claim7.holds Tryz.pinned (.plain (OpenSpec.upto mapsHigherSpec)) mapsHigherUptoCard
end Rows
end Go.Proofs.YtanjggdmgeedlaaGreatDoor
