/-
  DERIVED. GIVEN WITH THE SEED: THE CARDS: each row of YtbnkckjdgpiggaaGreatDoorRows.lean that lists a variable, with what it lists TIED to the program's text (the seventh form; the later family's looks); each row that meets fmt, with fmt's text TOLD by the authors' own Lean function (tested against real Go, not proved from fmt's source: count such statements apart). THE CARD IS WHAT COUNTS. Prove the row's statement (the work); the ties are given (YtbnkckjdgpiggaaGreatDoorTie.lean); close each card by the builder's one call (the guide's Derived/Test/ToyasCard.lean, 'card_holds'). Laid BY PROGRAM, IN A SANDBOX (cutbox-door.mjs). By AI agents, Wed Nov 11 2026. No macro, syntax, notation, axiom, sorry.
-/
import Derived.Test.YtbnkckjdgpiggaaGreatDoorRows
import GoSem.ClaimSeven
namespace Go.Proofs.YtbnkckjdgpiggaaGreatDoor
namespace Rows

/-- THE TIED CARD OF 'coffeehousetop.TopCompiled'. -/
def topCompiledCard : Claim7 := { stood := { row := topCompiledRow, standIns := [], harness := (true, "e7a675b85553397b6af37845f35499513fe356401670e6d30c5ad073a0cb1df3"), looks := true }, kinds := [], alts := [], laidByText := true, laidKinds := [.data, .data, .pinned], laidTests := true, laidLooks := .later }
def TopCompiledCardSaid : Prop := Claim7.holds Tryz.pinned (.plain (OpenSpec.ofChange topCompiledSpec)) topCompiledCard

/-- THE SECOND FORM's CARD OF 'coffeehousetop.TopCompiled'. -/
def topCompiledUptoCard : Claim7 := { stood := { row := topCompiledUptoRow, standIns := [], harness := (true, "e7a675b85553397b6af37845f35499513fe356401670e6d30c5ad073a0cb1df3"), looks := true }, kinds := [], alts := [], laidByText := true, laidKinds := [.data, .data, .pinned], laidTests := true, laidLooks := .later }
def TopCompiledUptoCardSaid : Prop := Claim7.holds Tryz.pinned (.plain (OpenSpec.upto topCompiledSpec)) topCompiledUptoCard
end Rows
end Go.Proofs.YtbnkckjdgpiggaaGreatDoor
