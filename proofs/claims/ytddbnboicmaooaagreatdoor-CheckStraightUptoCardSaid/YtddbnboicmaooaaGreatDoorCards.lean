/-
  DERIVED. GIVEN WITH THE SEED: THE CARDS: each row of YtddbnboicmaooaaGreatDoorRows.lean that lists a variable, with what it lists TIED to the program's text (the seventh form; the later family's looks); each row that meets fmt, with fmt's text TOLD by the authors' own Lean function (tested against real Go, not proved from fmt's source: count such statements apart). THE CARD IS WHAT COUNTS. Prove the row's statement (the work); the ties are given (YtddbnboicmaooaaGreatDoorTie.lean); close each card by the builder's one call (the guide's Derived/Test/ToyasCard.lean, 'card_holds'). Laid BY PROGRAM, IN A SANDBOX (cutbox-door.mjs). By AI agents, Wed Nov 11 2026. No macro, syntax, notation, axiom, sorry.
-/
import Derived.Test.YtddbnboicmaooaaGreatDoorRows
import GoSem.ClaimSeven
namespace Go.Proofs.YtddbnboicmaooaaGreatDoor
namespace Rows

/-- THE TIED CARD OF 'coffeehousetop.TopCompiled'. -/
def topCompiledCard : Claim7 := { stood := { row := topCompiledRow, standIns := [], harness := (true, "280e7767b461ee05416f8be91cf3a72429b5b41722424aa8d0bdd1b93b793845"), looks := true }, kinds := [], alts := [], laidByText := true, laidKinds := [.data, .data, .pinned], laidTests := true, laidLooks := .later }
def TopCompiledCardSaid : Prop := Claim7.holds Tryz.pinned (.plain (OpenSpec.ofChange topCompiledSpec)) topCompiledCard

/-- THE TIED CARD OF 'coffeehouselaw6.CheckStraight'. -/
def checkStraightCard : Claim7 := { stood := { row := checkStraightRow, standIns := [], harness := (true, "280e7767b461ee05416f8be91cf3a72429b5b41722424aa8d0bdd1b93b793845"), looks := true }, kinds := [], alts := [], laidByText := true, laidKinds := [.data, .data, .pinned], laidTests := true, laidLooks := .later }
def CheckStraightCardSaid : Prop := Claim7.holds Tryz.pinned (.plain (OpenSpec.ofChange checkStraightSpec)) checkStraightCard

/-- THE SECOND FORM's CARD OF 'coffeehousetop.TopCompiled'. -/
def topCompiledUptoCard : Claim7 := { stood := { row := topCompiledUptoRow, standIns := [], harness := (true, "280e7767b461ee05416f8be91cf3a72429b5b41722424aa8d0bdd1b93b793845"), looks := true }, kinds := [], alts := [], laidByText := true, laidKinds := [.data, .data, .pinned], laidTests := true, laidLooks := .later }
def TopCompiledUptoCardSaid : Prop := Claim7.holds Tryz.pinned (.plain (OpenSpec.upto topCompiledSpec)) topCompiledUptoCard

/-- THE SECOND FORM's CARD OF 'coffeehouselaw6.CheckStraight'. -/
def checkStraightUptoCard : Claim7 := { stood := { row := checkStraightUptoRow, standIns := [], harness := (true, "280e7767b461ee05416f8be91cf3a72429b5b41722424aa8d0bdd1b93b793845"), looks := true }, kinds := [], alts := [], laidByText := true, laidKinds := [.data, .data, .pinned], laidTests := true, laidLooks := .later }
def CheckStraightUptoCardSaid : Prop := Claim7.holds Tryz.pinned (.plain (OpenSpec.upto checkStraightSpec)) checkStraightUptoCard
end Rows
end Go.Proofs.YtddbnboicmaooaaGreatDoor
