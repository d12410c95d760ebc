/-
  DERIVED. GIVEN WITH THE SEED: THE CARDS: each row of YtokomofjcnefaaaDoorRows.lean that lists a variable, with what it lists TIED to the program's text (the seventh form; the later family's looks); each row that meets fmt, with fmt's text TOLD by the authors' own Lean function (tested against real Go, not proved from fmt's source: count such statements apart). THE CARD IS WHAT COUNTS. Prove the row's statement (the work); the ties are given (YtokomofjcnefaaaDoorTie.lean); close each card by the builder's one call (the guide's Derived/Test/ToyasCard.lean, 'card_holds'). Laid BY PROGRAM, IN A SANDBOX (cutbox-door.mjs). By AI agents, Wed Nov 11 2026. No macro, syntax, notation, axiom, sorry.
-/
import Derived.Test.YtokomofjcnefaaaDoorRows
import GoSem.ClaimSeven
namespace Go.Proofs.YtokomofjcnefaaaDoor
namespace Rows

/-- THE TIED CARD OF 'coffeehouselaw6.WorldMore'. -/
def worldMoreCard : Claim7 := { stood := { row := worldMoreRow, standIns := [], harness := (true, "ede3499e5522e90f9ecb445727a7bf11d5c58546a81bc4d7b86c27d0c413c977"), looks := true }, kinds := [], alts := [], laidByText := true, laidKinds := [.data, .data, .pinned], laidTests := true, laidLooks := .later }
def WorldMoreCardSaid : Prop := Claim7.holds Tryd.pinned (.plain (OpenSpec.ofChange worldMoreSpec)) worldMoreCard

/-- THE TIED CARD OF 'coffeehouselaw6.WorldRound'. -/
def worldRoundCard : Claim7 := { stood := { row := worldRoundRow, standIns := [], harness := (true, "ede3499e5522e90f9ecb445727a7bf11d5c58546a81bc4d7b86c27d0c413c977"), looks := true }, kinds := [], alts := [], laidByText := true, laidKinds := [.data, .data, .pinned], laidTests := true, laidLooks := .later }
def WorldRoundCardSaid : Prop := Claim7.holds Tryd.pinned (.plain (OpenSpec.ofChange worldRoundSpec)) worldRoundCard

/-- THE TIED CARD OF 'coffeehouselaw6.CatchNone'. -/
def catchNoneCard : Claim7 := { stood := { row := catchNoneRow, standIns := [], harness := (true, "ede3499e5522e90f9ecb445727a7bf11d5c58546a81bc4d7b86c27d0c413c977"), looks := true }, kinds := [], alts := [], laidByText := true, laidKinds := [.data, .data, .pinned], laidTests := true, laidLooks := .later }
def CatchNoneCardSaid : Prop := Claim7.holds Tryd.pinned (.plain (OpenSpec.ofChange catchNoneSpec)) catchNoneCard

/-- THE TIED CARD OF 'coffeehouselaw6.StartAgain'. -/
def startAgainCard : Claim7 := { stood := { row := startAgainRow, standIns := [], harness := (true, "ede3499e5522e90f9ecb445727a7bf11d5c58546a81bc4d7b86c27d0c413c977"), looks := true }, kinds := [], alts := [], laidByText := true, laidKinds := [.data, .data, .pinned], laidTests := true, laidLooks := .later }
def StartAgainCardSaid : Prop := Claim7.holds Tryd.pinned (.plain (OpenSpec.ofChange startAgainSpec)) startAgainCard

/-- THE SECOND FORM's CARD OF 'coffeehouselaw6.WorldMore'. -/
def worldMoreUptoCard : Claim7 := { stood := { row := worldMoreUptoRow, standIns := [], harness := (true, "ede3499e5522e90f9ecb445727a7bf11d5c58546a81bc4d7b86c27d0c413c977"), looks := true }, kinds := [], alts := [], laidByText := true, laidKinds := [.data, .data, .pinned], laidTests := true, laidLooks := .later }
def WorldMoreUptoCardSaid : Prop := Claim7.holds Tryd.pinned (.plain (OpenSpec.upto worldMoreSpec)) worldMoreUptoCard

/-- THE SECOND FORM's CARD OF 'coffeehouselaw6.WorldRound'. -/
def worldRoundUptoCard : Claim7 := { stood := { row := worldRoundUptoRow, standIns := [], harness := (true, "ede3499e5522e90f9ecb445727a7bf11d5c58546a81bc4d7b86c27d0c413c977"), looks := true }, kinds := [], alts := [], laidByText := true, laidKinds := [.data, .data, .pinned], laidTests := true, laidLooks := .later }
def WorldRoundUptoCardSaid : Prop := Claim7.holds Tryd.pinned (.plain (OpenSpec.upto worldRoundSpec)) worldRoundUptoCard

/-- THE SECOND FORM's CARD OF 'coffeehouselaw6.CatchNone'. -/
def catchNoneUptoCard : Claim7 := { stood := { row := catchNoneUptoRow, standIns := [], harness := (true, "ede3499e5522e90f9ecb445727a7bf11d5c58546a81bc4d7b86c27d0c413c977"), looks := true }, kinds := [], alts := [], laidByText := true, laidKinds := [.data, .data, .pinned], laidTests := true, laidLooks := .later }
def CatchNoneUptoCardSaid : Prop := Claim7.holds Tryd.pinned (.plain (OpenSpec.upto catchNoneSpec)) catchNoneUptoCard

/-- THE SECOND FORM's CARD OF 'coffeehouselaw6.StartAgain'. -/
def startAgainUptoCard : Claim7 := { stood := { row := startAgainUptoRow, standIns := [], harness := (true, "ede3499e5522e90f9ecb445727a7bf11d5c58546a81bc4d7b86c27d0c413c977"), looks := true }, kinds := [], alts := [], laidByText := true, laidKinds := [.data, .data, .pinned], laidTests := true, laidLooks := .later }
def StartAgainUptoCardSaid : Prop := Claim7.holds Tryd.pinned (.plain (OpenSpec.upto startAgainSpec)) startAgainUptoCard
end Rows
end Go.Proofs.YtokomofjcnefaaaDoor
