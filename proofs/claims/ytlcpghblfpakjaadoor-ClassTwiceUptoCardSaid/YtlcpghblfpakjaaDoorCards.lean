/-
  DERIVED. GIVEN WITH THE SEED: THE CARDS: each row of YtlcpghblfpakjaaDoorRows.lean that lists a variable, with what it lists TIED to the program's text (the seventh form; the later family's looks); each row that meets fmt, with fmt's text TOLD by the authors' own Lean function (tested against real Go, not proved from fmt's source: count such statements apart). THE CARD IS WHAT COUNTS. Prove the row's statement (the work); the ties are given (YtlcpghblfpakjaaDoorTie.lean); close each card by the builder's one call (the guide's Derived/Test/ToyasCard.lean, 'card_holds'). Laid BY PROGRAM, IN A SANDBOX (cutbox-door.mjs). By AI agents, Wed Nov 11 2026. No macro, syntax, notation, axiom, sorry.
-/
import Derived.Test.YtlcpghblfpakjaaDoorRows
import GoSem.ClaimSeven
namespace Go.Proofs.YtlcpghblfpakjaaDoor
namespace Rows

/-- THE TIED CARD OF 'coffeehouselaw6.ClassTwice'. -/
def classTwiceCard : Claim7 := { stood := { row := classTwiceRow, standIns := [], harness := (true, "d70d2925a4f79868357c50873c059dbde75ba981d900ee8a2920c1e947795c24"), looks := true }, kinds := [], alts := [], laidByText := true, laidKinds := [.data, .data, .pinned], laidTests := true, laidLooks := .later }
def ClassTwiceCardSaid : Prop := Claim7.holds Tryd.pinned (.plain (OpenSpec.ofChange classTwiceSpec)) classTwiceCard

/-- THE TIED CARD OF 'coffeehouselaw6.HandParts'. -/
def handPartsCard : Claim7 := { stood := { row := handPartsRow, standIns := [], harness := (true, "d70d2925a4f79868357c50873c059dbde75ba981d900ee8a2920c1e947795c24"), looks := true }, kinds := [], alts := [], laidByText := true, laidKinds := [.data, .pinned], laidTests := true, laidLooks := .later }
def HandPartsCardSaid : Prop := Claim7.holds Tryd.pinned (.plain (OpenSpec.ofChange handPartsSpec)) handPartsCard

/-- THE TIED CARD OF 'coffeehouselaw6.FoldChain'. -/
def foldChainCard : Claim7 := { stood := { row := foldChainRow, standIns := [], harness := (true, "d70d2925a4f79868357c50873c059dbde75ba981d900ee8a2920c1e947795c24"), looks := true }, kinds := [], alts := [], laidByText := true, laidKinds := [.data, .data, .pinned], laidTests := true, laidLooks := .later }
def FoldChainCardSaid : Prop := Claim7.holds Tryd.pinned (.plain (OpenSpec.ofChange foldChainSpec)) foldChainCard

/-- THE TIED CARD OF 'coffeehouselaw6.CodeLonger'. -/
def codeLongerCard : Claim7 := { stood := { row := codeLongerRow, standIns := [], harness := (true, "d70d2925a4f79868357c50873c059dbde75ba981d900ee8a2920c1e947795c24"), looks := true }, kinds := [], alts := [], laidByText := true, laidKinds := [.data, .data, .data, .data, .data, .pinned], laidTests := true, laidLooks := .later }
def CodeLongerCardSaid : Prop := Claim7.holds Tryd.pinned (.plain (OpenSpec.ofChange codeLongerSpec)) codeLongerCard

/-- THE TIED CARD OF 'coffeehouselaw6.CallMath'. -/
def callMathCard : Claim7 := { stood := { row := callMathRow, standIns := [], harness := (true, "d70d2925a4f79868357c50873c059dbde75ba981d900ee8a2920c1e947795c24"), looks := true }, kinds := [], alts := [], laidByText := true, laidKinds := [.data, .pinned], laidTests := true, laidLooks := .later }
def CallMathCardSaid : Prop := Claim7.holds Tryd.pinned (.plain (OpenSpec.ofChange callMathSpec)) callMathCard

/-- THE SECOND FORM's CARD OF 'coffeehouselaw6.ClassTwice'. -/
def classTwiceUptoCard : Claim7 := { stood := { row := classTwiceUptoRow, standIns := [], harness := (true, "d70d2925a4f79868357c50873c059dbde75ba981d900ee8a2920c1e947795c24"), looks := true }, kinds := [], alts := [], laidByText := true, laidKinds := [.data, .data, .pinned], laidTests := true, laidLooks := .later }
def ClassTwiceUptoCardSaid : Prop := Claim7.holds Tryd.pinned (.plain (OpenSpec.upto classTwiceSpec)) classTwiceUptoCard

/-- THE SECOND FORM's CARD OF 'coffeehouselaw6.HandParts'. -/
def handPartsUptoCard : Claim7 := { stood := { row := handPartsUptoRow, standIns := [], harness := (true, "d70d2925a4f79868357c50873c059dbde75ba981d900ee8a2920c1e947795c24"), looks := true }, kinds := [], alts := [], laidByText := true, laidKinds := [.data, .pinned], laidTests := true, laidLooks := .later }
def HandPartsUptoCardSaid : Prop := Claim7.holds Tryd.pinned (.plain (OpenSpec.upto handPartsSpec)) handPartsUptoCard

/-- THE SECOND FORM's CARD OF 'coffeehouselaw6.FoldChain'. -/
def foldChainUptoCard : Claim7 := { stood := { row := foldChainUptoRow, standIns := [], harness := (true, "d70d2925a4f79868357c50873c059dbde75ba981d900ee8a2920c1e947795c24"), looks := true }, kinds := [], alts := [], laidByText := true, laidKinds := [.data, .data, .pinned], laidTests := true, laidLooks := .later }
def FoldChainUptoCardSaid : Prop := Claim7.holds Tryd.pinned (.plain (OpenSpec.upto foldChainSpec)) foldChainUptoCard

/-- THE SECOND FORM's CARD OF 'coffeehouselaw6.CodeLonger'. -/
def codeLongerUptoCard : Claim7 := { stood := { row := codeLongerUptoRow, standIns := [], harness := (true, "d70d2925a4f79868357c50873c059dbde75ba981d900ee8a2920c1e947795c24"), looks := true }, kinds := [], alts := [], laidByText := true, laidKinds := [.data, .data, .data, .data, .data, .pinned], laidTests := true, laidLooks := .later }
def CodeLongerUptoCardSaid : Prop := Claim7.holds Tryd.pinned (.plain (OpenSpec.upto codeLongerSpec)) codeLongerUptoCard

/-- THE SECOND FORM's CARD OF 'coffeehouselaw6.CallMath'. -/
def callMathUptoCard : Claim7 := { stood := { row := callMathUptoRow, standIns := [], harness := (true, "d70d2925a4f79868357c50873c059dbde75ba981d900ee8a2920c1e947795c24"), looks := true }, kinds := [], alts := [], laidByText := true, laidKinds := [.data, .pinned], laidTests := true, laidLooks := .later }
def CallMathUptoCardSaid : Prop := Claim7.holds Tryd.pinned (.plain (OpenSpec.upto callMathSpec)) callMathUptoCard
end Rows
end Go.Proofs.YtlcpghblfpakjaaDoor
