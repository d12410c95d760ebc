/-
  DERIVED. GIVEN WITH THE SEED: THE CARDS: each row of YtkobgmacoakelaaGreatDoorRows.lean that lists a variable, with what it lists TIED to the program's text (the seventh form; the later family's looks); each row that meets fmt, with fmt's text TOLD by the authors' own Lean function (tested against real Go, not proved from fmt's source: count such statements apart). THE CARD IS WHAT COUNTS. Prove the row's statement (the work); the ties are given (YtkobgmacoakelaaGreatDoorTie.lean); close each card by the builder's one call (the guide's Derived/Test/ToyasCard.lean, 'card_holds'). Laid BY PROGRAM, IN A SANDBOX (cutbox-door.mjs). By AI agents, Wed Nov 11 2026. No macro, syntax, notation, axiom, sorry.
-/
import Derived.Test.YtkobgmacoakelaaGreatDoorRows
import GoSem.ClaimSeven
namespace Go.Proofs.YtkobgmacoakelaaGreatDoor
namespace Rows

/-- THE TIED CARD OF 'coffeehouselaw6.HeapNull'. -/
def heapNullCard : Claim7 := { stood := { row := heapNullRow, standIns := [], harness := (true, "983de9314f2bc94a20719d61cd271f2eec31e37fc0fe428a65b4a1f0ede04c0c"), looks := true }, kinds := [], alts := [], laidByText := true, laidKinds := [.data, .data, .pinned], laidTests := true, laidLooks := .later }
def HeapNullCardSaid : Prop := Claim7.holds Tryz.pinned (.plain (OpenSpec.ofChange heapNullSpec)) heapNullCard

/-- THE TIED CARD OF 'coffeehouselaw6.HeapLists'. -/
def heapListsCard : Claim7 := { stood := { row := heapListsRow, standIns := [], harness := (true, "983de9314f2bc94a20719d61cd271f2eec31e37fc0fe428a65b4a1f0ede04c0c"), looks := true }, kinds := [], alts := [], laidByText := true, laidKinds := [.data, .data, .pinned], laidTests := true, laidLooks := .later }
def HeapListsCardSaid : Prop := Claim7.holds Tryz.pinned (.plain (OpenSpec.ofChange heapListsSpec)) heapListsCard

/-- THE TIED CARD OF 'coffeehouselaw6.SweepNone'. -/
def sweepNoneCard : Claim7 := { stood := { row := sweepNoneRow, standIns := [], harness := (true, "983de9314f2bc94a20719d61cd271f2eec31e37fc0fe428a65b4a1f0ede04c0c"), looks := true }, kinds := [], alts := [], laidByText := true, laidKinds := [.data, .data, .pinned], laidTests := true, laidLooks := .later }
def SweepNoneCardSaid : Prop := Claim7.holds Tryz.pinned (.plain (OpenSpec.ofChange sweepNoneSpec)) sweepNoneCard

/-- THE TIED CARD OF 'coffeehouselaw6.FrameLocals'. -/
def frameLocalsCard : Claim7 := { stood := { row := frameLocalsRow, standIns := [], harness := (true, "983de9314f2bc94a20719d61cd271f2eec31e37fc0fe428a65b4a1f0ede04c0c"), looks := true }, kinds := [], alts := [], laidByText := true, laidKinds := [.data, .data, .pinned], laidTests := true, laidLooks := .later }
def FrameLocalsCardSaid : Prop := Claim7.holds Tryz.pinned (.plain (OpenSpec.ofChange frameLocalsSpec)) frameLocalsCard

/-- THE SECOND FORM's CARD OF 'coffeehouselaw6.HeapNull'. -/
def heapNullUptoCard : Claim7 := { stood := { row := heapNullUptoRow, standIns := [], harness := (true, "983de9314f2bc94a20719d61cd271f2eec31e37fc0fe428a65b4a1f0ede04c0c"), looks := true }, kinds := [], alts := [], laidByText := true, laidKinds := [.data, .data, .pinned], laidTests := true, laidLooks := .later }
def HeapNullUptoCardSaid : Prop := Claim7.holds Tryz.pinned (.plain (OpenSpec.upto heapNullSpec)) heapNullUptoCard

/-- THE SECOND FORM's CARD OF 'coffeehouselaw6.HeapLists'. -/
def heapListsUptoCard : Claim7 := { stood := { row := heapListsUptoRow, standIns := [], harness := (true, "983de9314f2bc94a20719d61cd271f2eec31e37fc0fe428a65b4a1f0ede04c0c"), looks := true }, kinds := [], alts := [], laidByText := true, laidKinds := [.data, .data, .pinned], laidTests := true, laidLooks := .later }
def HeapListsUptoCardSaid : Prop := Claim7.holds Tryz.pinned (.plain (OpenSpec.upto heapListsSpec)) heapListsUptoCard

/-- THE SECOND FORM's CARD OF 'coffeehouselaw6.SweepNone'. -/
def sweepNoneUptoCard : Claim7 := { stood := { row := sweepNoneUptoRow, standIns := [], harness := (true, "983de9314f2bc94a20719d61cd271f2eec31e37fc0fe428a65b4a1f0ede04c0c"), looks := true }, kinds := [], alts := [], laidByText := true, laidKinds := [.data, .data, .pinned], laidTests := true, laidLooks := .later }
def SweepNoneUptoCardSaid : Prop := Claim7.holds Tryz.pinned (.plain (OpenSpec.upto sweepNoneSpec)) sweepNoneUptoCard

/-- THE SECOND FORM's CARD OF 'coffeehouselaw6.FrameLocals'. -/
def frameLocalsUptoCard : Claim7 := { stood := { row := frameLocalsUptoRow, standIns := [], harness := (true, "983de9314f2bc94a20719d61cd271f2eec31e37fc0fe428a65b4a1f0ede04c0c"), looks := true }, kinds := [], alts := [], laidByText := true, laidKinds := [.data, .data, .pinned], laidTests := true, laidLooks := .later }
def FrameLocalsUptoCardSaid : Prop := Claim7.holds Tryz.pinned (.plain (OpenSpec.upto frameLocalsSpec)) frameLocalsUptoCard
end Rows
end Go.Proofs.YtkobgmacoakelaaGreatDoor
