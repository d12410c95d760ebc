/-
  DERIVED. GIVEN WITH THE SEED: THE CARDS: each row of YtfimajijegohmaaGreatDoorRows.lean that lists a variable, with what it lists TIED to the program's text (the seventh form; the later family's looks); each row that meets fmt, with fmt's text TOLD by the authors' own Lean function (tested against real Go, not proved from fmt's source: count such statements apart). THE CARD IS WHAT COUNTS. Prove the row's statement (the work); the ties are given (YtfimajijegohmaaGreatDoorTie.lean); close each card by the builder's one call (the guide's Derived/Test/ToyasCard.lean, 'card_holds'). Laid BY PROGRAM, IN A SANDBOX (cutbox-door.mjs). By AI agents, Wed Nov 11 2026. No macro, syntax, notation, axiom, sorry.
-/
import Derived.Test.YtfimajijegohmaaGreatDoorRows
import GoSem.ClaimSeven
namespace Go.Proofs.YtfimajijegohmaaGreatDoor
namespace Rows

/-- THE TIED CARD OF 'coffeehousetop.TopFields'. -/
def topFieldsCard : Claim7 := { stood := { row := topFieldsRow, standIns := [], harness := (true, "3d9287b3c59ba0185db09ece251ec5edb9244479c346db53401af4434913619f"), looks := true }, kinds := [], alts := [], laidByText := true, laidKinds := [.data, .data, .pinned], laidTests := true, laidLooks := .later }
def TopFieldsCardSaid : Prop := Claim7.holds Tryz.pinned (.plain (OpenSpec.ofChange topFieldsSpec)) topFieldsCard

/-- THE TIED CARD OF 'coffeehousetop.TopCompiled'. -/
def topCompiledCard : Claim7 := { stood := { row := topCompiledRow, standIns := [], harness := (true, "3d9287b3c59ba0185db09ece251ec5edb9244479c346db53401af4434913619f"), looks := true }, kinds := [], alts := [], laidByText := true, laidKinds := [.data, .data, .pinned], laidTests := true, laidLooks := .later }
def TopCompiledCardSaid : Prop := Claim7.holds Tryz.pinned (.plain (OpenSpec.ofChange topCompiledSpec)) topCompiledCard

/-- THE TIED CARD OF 'coffeehouselaw6.CheckStraight'. -/
def checkStraightCard : Claim7 := { stood := { row := checkStraightRow, standIns := [], harness := (true, "3d9287b3c59ba0185db09ece251ec5edb9244479c346db53401af4434913619f"), looks := true }, kinds := [], alts := [], laidByText := true, laidKinds := [.data, .data, .pinned], laidTests := true, laidLooks := .later }
def CheckStraightCardSaid : Prop := Claim7.holds Tryz.pinned (.plain (OpenSpec.ofChange checkStraightSpec)) checkStraightCard

/-- THE TIED CARD OF 'coffeehouselaw6.DeskWorlds'. -/
def deskWorldsCard : Claim7 := { stood := { row := deskWorldsRow, standIns := [], harness := (true, "3d9287b3c59ba0185db09ece251ec5edb9244479c346db53401af4434913619f"), looks := true }, kinds := [], alts := [], laidByText := true, laidKinds := [.data, .data, .data, .data, .sentinel, .sentinel, .data, .pinned], laidTests := true, laidLooks := .later }
def DeskWorldsCardSaid : Prop := Claim7.holds Tryz.pinned (.plain (OpenSpec.ofChange deskWorldsSpec)) deskWorldsCard

/-- THE SECOND FORM's CARD OF 'coffeehousetop.TopFields'. -/
def topFieldsUptoCard : Claim7 := { stood := { row := topFieldsUptoRow, standIns := [], harness := (true, "3d9287b3c59ba0185db09ece251ec5edb9244479c346db53401af4434913619f"), looks := true }, kinds := [], alts := [], laidByText := true, laidKinds := [.data, .data, .pinned], laidTests := true, laidLooks := .later }
def TopFieldsUptoCardSaid : Prop := Claim7.holds Tryz.pinned (.plain (OpenSpec.upto topFieldsSpec)) topFieldsUptoCard

/-- THE SECOND FORM's CARD OF 'coffeehousetop.TopCompiled'. -/
def topCompiledUptoCard : Claim7 := { stood := { row := topCompiledUptoRow, standIns := [], harness := (true, "3d9287b3c59ba0185db09ece251ec5edb9244479c346db53401af4434913619f"), looks := true }, kinds := [], alts := [], laidByText := true, laidKinds := [.data, .data, .pinned], laidTests := true, laidLooks := .later }
def TopCompiledUptoCardSaid : Prop := Claim7.holds Tryz.pinned (.plain (OpenSpec.upto topCompiledSpec)) topCompiledUptoCard

/-- THE SECOND FORM's CARD OF 'coffeehouselaw6.CheckStraight'. -/
def checkStraightUptoCard : Claim7 := { stood := { row := checkStraightUptoRow, standIns := [], harness := (true, "3d9287b3c59ba0185db09ece251ec5edb9244479c346db53401af4434913619f"), looks := true }, kinds := [], alts := [], laidByText := true, laidKinds := [.data, .data, .pinned], laidTests := true, laidLooks := .later }
def CheckStraightUptoCardSaid : Prop := Claim7.holds Tryz.pinned (.plain (OpenSpec.upto checkStraightSpec)) checkStraightUptoCard

/-- THE SECOND FORM's CARD OF 'coffeehouselaw6.DeskWorlds'. -/
def deskWorldsUptoCard : Claim7 := { stood := { row := deskWorldsUptoRow, standIns := [], harness := (true, "3d9287b3c59ba0185db09ece251ec5edb9244479c346db53401af4434913619f"), looks := true }, kinds := [], alts := [], laidByText := true, laidKinds := [.data, .data, .data, .data, .sentinel, .sentinel, .data, .pinned], laidTests := true, laidLooks := .later }
def DeskWorldsUptoCardSaid : Prop := Claim7.holds Tryz.pinned (.plain (OpenSpec.upto deskWorldsSpec)) deskWorldsUptoCard
end Rows
end Go.Proofs.YtfimajijegohmaaGreatDoor
