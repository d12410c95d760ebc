/-
  DERIVED. GIVEN WITH THE SEED: THE CARDS: each row of YtimkingebjhemaaDoorRows.lean that lists a variable, with what it lists TIED to the program's text (the seventh form; the later family's looks); each row that meets fmt, with fmt's text TOLD by the authors' own Lean function (tested against real Go, not proved from fmt's source: count such statements apart). THE CARD IS WHAT COUNTS. Prove the row's statement (the work); the ties are given (YtimkingebjhemaaDoorTie.lean); close each card by the builder's one call (the guide's Derived/Test/ToyasCard.lean, 'card_holds'). Laid BY PROGRAM, IN A SANDBOX (cutbox-door.mjs). By AI agents, Wed Nov 11 2026. No macro, syntax, notation, axiom, sorry.
-/
import Derived.Test.YtimkingebjhemaaDoorRows
import GoSem.ClaimSeven
namespace Go.Proofs.YtimkingebjhemaaDoor
namespace Rows

/-- THE TIED CARD OF 'coffeehouselaw6.HandParts'. -/
def handPartsCard : Claim7 := { stood := { row := handPartsRow, standIns := [], harness := (true, "24245b443bec3928145068ad93c379cd8625767c987202d0672d14052b903dfe"), looks := true }, kinds := [], alts := [], laidByText := true, laidKinds := [.data, .pinned], laidTests := true, laidLooks := .later }
def HandPartsCardSaid : Prop := Claim7.holds Tryd.pinned (.plain (OpenSpec.ofChange handPartsSpec)) handPartsCard

/-- THE TIED CARD OF 'coffeehouselaw6.FoldChain'. -/
def foldChainCard : Claim7 := { stood := { row := foldChainRow, standIns := [], harness := (true, "24245b443bec3928145068ad93c379cd8625767c987202d0672d14052b903dfe"), looks := true }, kinds := [], alts := [], laidByText := true, laidKinds := [.data, .data, .pinned], laidTests := true, laidLooks := .later }
def FoldChainCardSaid : Prop := Claim7.holds Tryd.pinned (.plain (OpenSpec.ofChange foldChainSpec)) foldChainCard

/-- THE SECOND FORM's CARD OF 'coffeehouselaw6.HandParts'. -/
def handPartsUptoCard : Claim7 := { stood := { row := handPartsUptoRow, standIns := [], harness := (true, "24245b443bec3928145068ad93c379cd8625767c987202d0672d14052b903dfe"), looks := true }, kinds := [], alts := [], laidByText := true, laidKinds := [.data, .pinned], laidTests := true, laidLooks := .later }
def HandPartsUptoCardSaid : Prop := Claim7.holds Tryd.pinned (.plain (OpenSpec.upto handPartsSpec)) handPartsUptoCard

/-- THE SECOND FORM's CARD OF 'coffeehouselaw6.FoldChain'. -/
def foldChainUptoCard : Claim7 := { stood := { row := foldChainUptoRow, standIns := [], harness := (true, "24245b443bec3928145068ad93c379cd8625767c987202d0672d14052b903dfe"), looks := true }, kinds := [], alts := [], laidByText := true, laidKinds := [.data, .data, .pinned], laidTests := true, laidLooks := .later }
def FoldChainUptoCardSaid : Prop := Claim7.holds Tryd.pinned (.plain (OpenSpec.upto foldChainSpec)) foldChainUptoCard
end Rows
end Go.Proofs.YtimkingebjhemaaDoor
