/-
  DERIVED. GIVEN WITH THE SEED: THE CARDS: each row of YtpdbhfacglojjaaDoorRows.lean that lists a variable, with what it lists TIED to the program's text (the seventh form; the later family's looks); each row that meets fmt, with fmt's text TOLD by the authors' own Lean function (tested against real Go, not proved from fmt's source: count such statements apart). THE CARD IS WHAT COUNTS. Prove the row's statement (the work); the ties are given (YtpdbhfacglojjaaDoorTie.lean); close each card by the builder's one call (the guide's Derived/Test/ToyasCard.lean, 'card_holds'). Laid BY PROGRAM, IN A SANDBOX (cutbox-door.mjs). By AI agents, Wed Nov 11 2026. No macro, syntax, notation, axiom, sorry.
-/
import Derived.Test.YtpdbhfacglojjaaDoorRows
import GoSem.ClaimSeven
namespace Go.Proofs.YtpdbhfacglojjaaDoor
namespace Rows

/-- THE TIED CARD OF 'coffeehouselaw6.FlowAhead'. -/
def flowAheadCard : Claim7 := { stood := { row := flowAheadRow, standIns := [], harness := (true, "0f367469ea0de8c6dceb2cccbc72a5f1e4a4eeec4a6a3f962ac05ed10d154575"), looks := true }, kinds := [], alts := [], laidByText := true, laidKinds := [.data, .data, .pinned], laidTests := true, laidLooks := .later }
def FlowAheadCardSaid : Prop := Claim7.holds Tryd.pinned (.plain (OpenSpec.ofChange flowAheadSpec)) flowAheadCard

/-- THE TIED CARD OF 'coffeehouselaw6.TrimSame'. -/
def trimSameCard : Claim7 := { stood := { row := trimSameRow, standIns := [], harness := (true, "0f367469ea0de8c6dceb2cccbc72a5f1e4a4eeec4a6a3f962ac05ed10d154575"), looks := true }, kinds := [], alts := [], laidByText := true, laidKinds := [.data, .data, .pinned], laidTests := true, laidLooks := .later }
def TrimSameCardSaid : Prop := Claim7.holds Tryd.pinned (.plain (OpenSpec.ofChange trimSameSpec)) trimSameCard

/-- THE TIED CARD OF 'coffeehouselaw6.ClassTwice'. -/
def classTwiceCard : Claim7 := { stood := { row := classTwiceRow, standIns := [], harness := (true, "0f367469ea0de8c6dceb2cccbc72a5f1e4a4eeec4a6a3f962ac05ed10d154575"), looks := true }, kinds := [], alts := [], laidByText := true, laidKinds := [.data, .data, .pinned], laidTests := true, laidLooks := .later }
def ClassTwiceCardSaid : Prop := Claim7.holds Tryd.pinned (.plain (OpenSpec.ofChange classTwiceSpec)) classTwiceCard

/-- THE TIED CARD OF 'coffeehouselaw6.HandParts'. -/
def handPartsCard : Claim7 := { stood := { row := handPartsRow, standIns := [], harness := (true, "0f367469ea0de8c6dceb2cccbc72a5f1e4a4eeec4a6a3f962ac05ed10d154575"), looks := true }, kinds := [], alts := [], laidByText := true, laidKinds := [.data, .pinned], laidTests := true, laidLooks := .later }
def HandPartsCardSaid : Prop := Claim7.holds Tryd.pinned (.plain (OpenSpec.ofChange handPartsSpec)) handPartsCard

/-- THE TIED CARD OF 'coffeehouselaw6.InsApart'. -/
def insApartCard : Claim7 := { stood := { row := insApartRow, standIns := [], harness := (true, "0f367469ea0de8c6dceb2cccbc72a5f1e4a4eeec4a6a3f962ac05ed10d154575"), looks := true }, kinds := [], alts := [], laidByText := true, laidKinds := [.data, .data, .data, .data, .data, .pinned], laidTests := true, laidLooks := .later }
def InsApartCardSaid : Prop := Claim7.holds Tryd.pinned (.plain (OpenSpec.ofChange insApartSpec)) insApartCard

/-- THE TIED CARD OF 'coffeehouselaw6.FoldChain'. -/
def foldChainCard : Claim7 := { stood := { row := foldChainRow, standIns := [], harness := (true, "0f367469ea0de8c6dceb2cccbc72a5f1e4a4eeec4a6a3f962ac05ed10d154575"), looks := true }, kinds := [], alts := [], laidByText := true, laidKinds := [.data, .data, .pinned], laidTests := true, laidLooks := .later }
def FoldChainCardSaid : Prop := Claim7.holds Tryd.pinned (.plain (OpenSpec.ofChange foldChainSpec)) foldChainCard

/-- THE TIED CARD OF 'coffeehouselaw6.CodeLonger'. -/
def codeLongerCard : Claim7 := { stood := { row := codeLongerRow, standIns := [], harness := (true, "0f367469ea0de8c6dceb2cccbc72a5f1e4a4eeec4a6a3f962ac05ed10d154575"), looks := true }, kinds := [], alts := [], laidByText := true, laidKinds := [.data, .data, .data, .data, .data, .pinned], laidTests := true, laidLooks := .later }
def CodeLongerCardSaid : Prop := Claim7.holds Tryd.pinned (.plain (OpenSpec.ofChange codeLongerSpec)) codeLongerCard

/-- THE TIED CARD OF 'coffeehouselaw6.CallMath'. -/
def callMathCard : Claim7 := { stood := { row := callMathRow, standIns := [], harness := (true, "0f367469ea0de8c6dceb2cccbc72a5f1e4a4eeec4a6a3f962ac05ed10d154575"), looks := true }, kinds := [], alts := [], laidByText := true, laidKinds := [.data, .pinned], laidTests := true, laidLooks := .later }
def CallMathCardSaid : Prop := Claim7.holds Tryd.pinned (.plain (OpenSpec.ofChange callMathSpec)) callMathCard

/-- THE TIED CARD OF 'coffeehouselaw6.WorldMore'. -/
def worldMoreCard : Claim7 := { stood := { row := worldMoreRow, standIns := [], harness := (true, "0f367469ea0de8c6dceb2cccbc72a5f1e4a4eeec4a6a3f962ac05ed10d154575"), looks := true }, kinds := [], alts := [], laidByText := true, laidKinds := [.data, .data, .pinned], laidTests := true, laidLooks := .later }
def WorldMoreCardSaid : Prop := Claim7.holds Tryd.pinned (.plain (OpenSpec.ofChange worldMoreSpec)) worldMoreCard

/-- THE TIED CARD OF 'coffeehouselaw6.WorldRound'. -/
def worldRoundCard : Claim7 := { stood := { row := worldRoundRow, standIns := [], harness := (true, "0f367469ea0de8c6dceb2cccbc72a5f1e4a4eeec4a6a3f962ac05ed10d154575"), looks := true }, kinds := [], alts := [], laidByText := true, laidKinds := [.data, .data, .pinned], laidTests := true, laidLooks := .later }
def WorldRoundCardSaid : Prop := Claim7.holds Tryd.pinned (.plain (OpenSpec.ofChange worldRoundSpec)) worldRoundCard

/-- THE TIED CARD OF 'coffeehouselaw6.CatchNone'. -/
def catchNoneCard : Claim7 := { stood := { row := catchNoneRow, standIns := [], harness := (true, "0f367469ea0de8c6dceb2cccbc72a5f1e4a4eeec4a6a3f962ac05ed10d154575"), looks := true }, kinds := [], alts := [], laidByText := true, laidKinds := [.data, .data, .pinned], laidTests := true, laidLooks := .later }
def CatchNoneCardSaid : Prop := Claim7.holds Tryd.pinned (.plain (OpenSpec.ofChange catchNoneSpec)) catchNoneCard

/-- THE TIED CARD OF 'coffeehouselaw6.StartAgain'. -/
def startAgainCard : Claim7 := { stood := { row := startAgainRow, standIns := [], harness := (true, "0f367469ea0de8c6dceb2cccbc72a5f1e4a4eeec4a6a3f962ac05ed10d154575"), looks := true }, kinds := [], alts := [], laidByText := true, laidKinds := [.data, .data, .pinned], laidTests := true, laidLooks := .later }
def StartAgainCardSaid : Prop := Claim7.holds Tryd.pinned (.plain (OpenSpec.ofChange startAgainSpec)) startAgainCard

/-- THE SECOND FORM's CARD OF 'coffeehouselaw6.FlowAhead'. -/
def flowAheadUptoCard : Claim7 := { stood := { row := flowAheadUptoRow, standIns := [], harness := (true, "0f367469ea0de8c6dceb2cccbc72a5f1e4a4eeec4a6a3f962ac05ed10d154575"), looks := true }, kinds := [], alts := [], laidByText := true, laidKinds := [.data, .data, .pinned], laidTests := true, laidLooks := .later }
def FlowAheadUptoCardSaid : Prop := Claim7.holds Tryd.pinned (.plain (OpenSpec.upto flowAheadSpec)) flowAheadUptoCard

/-- THE SECOND FORM's CARD OF 'coffeehouselaw6.TrimSame'. -/
def trimSameUptoCard : Claim7 := { stood := { row := trimSameUptoRow, standIns := [], harness := (true, "0f367469ea0de8c6dceb2cccbc72a5f1e4a4eeec4a6a3f962ac05ed10d154575"), looks := true }, kinds := [], alts := [], laidByText := true, laidKinds := [.data, .data, .pinned], laidTests := true, laidLooks := .later }
def TrimSameUptoCardSaid : Prop := Claim7.holds Tryd.pinned (.plain (OpenSpec.upto trimSameSpec)) trimSameUptoCard

/-- THE SECOND FORM's CARD OF 'coffeehouselaw6.ClassTwice'. -/
def classTwiceUptoCard : Claim7 := { stood := { row := classTwiceUptoRow, standIns := [], harness := (true, "0f367469ea0de8c6dceb2cccbc72a5f1e4a4eeec4a6a3f962ac05ed10d154575"), looks := true }, kinds := [], alts := [], laidByText := true, laidKinds := [.data, .data, .pinned], laidTests := true, laidLooks := .later }
def ClassTwiceUptoCardSaid : Prop := Claim7.holds Tryd.pinned (.plain (OpenSpec.upto classTwiceSpec)) classTwiceUptoCard

/-- THE SECOND FORM's CARD OF 'coffeehouselaw6.HandParts'. -/
def handPartsUptoCard : Claim7 := { stood := { row := handPartsUptoRow, standIns := [], harness := (true, "0f367469ea0de8c6dceb2cccbc72a5f1e4a4eeec4a6a3f962ac05ed10d154575"), looks := true }, kinds := [], alts := [], laidByText := true, laidKinds := [.data, .pinned], laidTests := true, laidLooks := .later }
def HandPartsUptoCardSaid : Prop := Claim7.holds Tryd.pinned (.plain (OpenSpec.upto handPartsSpec)) handPartsUptoCard

/-- THE SECOND FORM's CARD OF 'coffeehouselaw6.InsApart'. -/
def insApartUptoCard : Claim7 := { stood := { row := insApartUptoRow, standIns := [], harness := (true, "0f367469ea0de8c6dceb2cccbc72a5f1e4a4eeec4a6a3f962ac05ed10d154575"), looks := true }, kinds := [], alts := [], laidByText := true, laidKinds := [.data, .data, .data, .data, .data, .pinned], laidTests := true, laidLooks := .later }
def InsApartUptoCardSaid : Prop := Claim7.holds Tryd.pinned (.plain (OpenSpec.upto insApartSpec)) insApartUptoCard

/-- THE SECOND FORM's CARD OF 'coffeehouselaw6.FoldChain'. -/
def foldChainUptoCard : Claim7 := { stood := { row := foldChainUptoRow, standIns := [], harness := (true, "0f367469ea0de8c6dceb2cccbc72a5f1e4a4eeec4a6a3f962ac05ed10d154575"), looks := true }, kinds := [], alts := [], laidByText := true, laidKinds := [.data, .data, .pinned], laidTests := true, laidLooks := .later }
def FoldChainUptoCardSaid : Prop := Claim7.holds Tryd.pinned (.plain (OpenSpec.upto foldChainSpec)) foldChainUptoCard

/-- THE SECOND FORM's CARD OF 'coffeehouselaw6.CodeLonger'. -/
def codeLongerUptoCard : Claim7 := { stood := { row := codeLongerUptoRow, standIns := [], harness := (true, "0f367469ea0de8c6dceb2cccbc72a5f1e4a4eeec4a6a3f962ac05ed10d154575"), looks := true }, kinds := [], alts := [], laidByText := true, laidKinds := [.data, .data, .data, .data, .data, .pinned], laidTests := true, laidLooks := .later }
def CodeLongerUptoCardSaid : Prop := Claim7.holds Tryd.pinned (.plain (OpenSpec.upto codeLongerSpec)) codeLongerUptoCard

/-- THE SECOND FORM's CARD OF 'coffeehouselaw6.CallMath'. -/
def callMathUptoCard : Claim7 := { stood := { row := callMathUptoRow, standIns := [], harness := (true, "0f367469ea0de8c6dceb2cccbc72a5f1e4a4eeec4a6a3f962ac05ed10d154575"), looks := true }, kinds := [], alts := [], laidByText := true, laidKinds := [.data, .pinned], laidTests := true, laidLooks := .later }
def CallMathUptoCardSaid : Prop := Claim7.holds Tryd.pinned (.plain (OpenSpec.upto callMathSpec)) callMathUptoCard

/-- THE SECOND FORM's CARD OF 'coffeehouselaw6.WorldMore'. -/
def worldMoreUptoCard : Claim7 := { stood := { row := worldMoreUptoRow, standIns := [], harness := (true, "0f367469ea0de8c6dceb2cccbc72a5f1e4a4eeec4a6a3f962ac05ed10d154575"), looks := true }, kinds := [], alts := [], laidByText := true, laidKinds := [.data, .data, .pinned], laidTests := true, laidLooks := .later }
def WorldMoreUptoCardSaid : Prop := Claim7.holds Tryd.pinned (.plain (OpenSpec.upto worldMoreSpec)) worldMoreUptoCard

/-- THE SECOND FORM's CARD OF 'coffeehouselaw6.WorldRound'. -/
def worldRoundUptoCard : Claim7 := { stood := { row := worldRoundUptoRow, standIns := [], harness := (true, "0f367469ea0de8c6dceb2cccbc72a5f1e4a4eeec4a6a3f962ac05ed10d154575"), looks := true }, kinds := [], alts := [], laidByText := true, laidKinds := [.data, .data, .pinned], laidTests := true, laidLooks := .later }
def WorldRoundUptoCardSaid : Prop := Claim7.holds Tryd.pinned (.plain (OpenSpec.upto worldRoundSpec)) worldRoundUptoCard

/-- THE SECOND FORM's CARD OF 'coffeehouselaw6.CatchNone'. -/
def catchNoneUptoCard : Claim7 := { stood := { row := catchNoneUptoRow, standIns := [], harness := (true, "0f367469ea0de8c6dceb2cccbc72a5f1e4a4eeec4a6a3f962ac05ed10d154575"), looks := true }, kinds := [], alts := [], laidByText := true, laidKinds := [.data, .data, .pinned], laidTests := true, laidLooks := .later }
def CatchNoneUptoCardSaid : Prop := Claim7.holds Tryd.pinned (.plain (OpenSpec.upto catchNoneSpec)) catchNoneUptoCard

/-- THE SECOND FORM's CARD OF 'coffeehouselaw6.StartAgain'. -/
def startAgainUptoCard : Claim7 := { stood := { row := startAgainUptoRow, standIns := [], harness := (true, "0f367469ea0de8c6dceb2cccbc72a5f1e4a4eeec4a6a3f962ac05ed10d154575"), looks := true }, kinds := [], alts := [], laidByText := true, laidKinds := [.data, .data, .pinned], laidTests := true, laidLooks := .later }
def StartAgainUptoCardSaid : Prop := Claim7.holds Tryd.pinned (.plain (OpenSpec.upto startAgainSpec)) startAgainUptoCard
end Rows
end Go.Proofs.YtpdbhfacglojjaaDoor
