/-
  DERIVED. GIVEN WITH THE SEED: THE CARDS: each row of YtpkhfcbkadkadaaDoorRows.lean that lists a variable, with what it lists TIED to the program's text (the seventh form; the later family's looks); each row that meets fmt, with fmt's text TOLD by the authors' own Lean function (tested against real Go, not proved from fmt's source: count such statements apart). THE CARD IS WHAT COUNTS. Prove the row's statement (the work); the ties are given (YtpkhfcbkadkadaaDoorTie.lean); close each card by the builder's one call (the guide's Derived/Test/ToyasCard.lean, 'card_holds'). Laid BY PROGRAM, IN A SANDBOX (cutbox-door.mjs). By AI agents, Wed Nov 11 2026. No macro, syntax, notation, axiom, sorry.
-/
import Derived.Test.YtpkhfcbkadkadaaDoorRows
import GoSem.ClaimSeven
namespace Go.Proofs.YtpkhfcbkadkadaaDoor
namespace Rows

/-- THE TIED CARD OF 'coffeehouselaw6.HandParts'. -/
def handPartsCard : Claim7 := { stood := { row := handPartsRow, standIns := [], harness := (true, "d0f3125413f98dbd43a42cf4385b649eb96c1780b3f410af8b2b8f0538686267"), looks := true }, kinds := [], alts := [], laidByText := true, laidKinds := [.data, .pinned], laidTests := true, laidLooks := .later }
def HandPartsCardSaid : Prop := Claim7.holds Tryd.pinned (.plain (OpenSpec.ofChange handPartsSpec)) handPartsCard

/-- THE TIED CARD OF 'coffeehouselaw6.FoldChain'. -/
def foldChainCard : Claim7 := { stood := { row := foldChainRow, standIns := [], harness := (true, "d0f3125413f98dbd43a42cf4385b649eb96c1780b3f410af8b2b8f0538686267"), looks := true }, kinds := [], alts := [], laidByText := true, laidKinds := [.data, .data, .pinned], laidTests := true, laidLooks := .later }
def FoldChainCardSaid : Prop := Claim7.holds Tryd.pinned (.plain (OpenSpec.ofChange foldChainSpec)) foldChainCard

/-- THE TIED CARD OF 'coffeehouselaw6.RightFound'. -/
def rightFoundCard : Claim7 := { stood := { row := rightFoundRow, standIns := [], harness := (true, "d0f3125413f98dbd43a42cf4385b649eb96c1780b3f410af8b2b8f0538686267"), looks := true }, kinds := [], alts := [], laidByText := true, laidKinds := [.data, .data, .pinned], laidTests := true, laidLooks := .later }
def RightFoundCardSaid : Prop := Claim7.holds Tryd.pinned (.plain (OpenSpec.ofChange rightFoundSpec)) rightFoundCard

/-- THE SECOND FORM's CARD OF 'coffeehouselaw6.HandParts'. -/
def handPartsUptoCard : Claim7 := { stood := { row := handPartsUptoRow, standIns := [], harness := (true, "d0f3125413f98dbd43a42cf4385b649eb96c1780b3f410af8b2b8f0538686267"), looks := true }, kinds := [], alts := [], laidByText := true, laidKinds := [.data, .pinned], laidTests := true, laidLooks := .later }
def HandPartsUptoCardSaid : Prop := Claim7.holds Tryd.pinned (.plain (OpenSpec.upto handPartsSpec)) handPartsUptoCard

/-- THE SECOND FORM's CARD OF 'coffeehouselaw6.FoldChain'. -/
def foldChainUptoCard : Claim7 := { stood := { row := foldChainUptoRow, standIns := [], harness := (true, "d0f3125413f98dbd43a42cf4385b649eb96c1780b3f410af8b2b8f0538686267"), looks := true }, kinds := [], alts := [], laidByText := true, laidKinds := [.data, .data, .pinned], laidTests := true, laidLooks := .later }
def FoldChainUptoCardSaid : Prop := Claim7.holds Tryd.pinned (.plain (OpenSpec.upto foldChainSpec)) foldChainUptoCard

/-- THE SECOND FORM's CARD OF 'coffeehouselaw6.RightFound'. -/
def rightFoundUptoCard : Claim7 := { stood := { row := rightFoundUptoRow, standIns := [], harness := (true, "d0f3125413f98dbd43a42cf4385b649eb96c1780b3f410af8b2b8f0538686267"), looks := true }, kinds := [], alts := [], laidByText := true, laidKinds := [.data, .data, .pinned], laidTests := true, laidLooks := .later }
def RightFoundUptoCardSaid : Prop := Claim7.holds Tryd.pinned (.plain (OpenSpec.upto rightFoundSpec)) rightFoundUptoCard
end Rows
end Go.Proofs.YtpkhfcbkadkadaaDoor
