/-
  DERIVED. GIVEN WITH THE SEED: THE CARDS: each row of YtnamnihdbemkhaaDoorRows.lean that lists a variable, with what it lists TIED to the program's text (the seventh form; the later family's looks); each row that meets fmt, with fmt's text TOLD by the authors' own Lean function (tested against real Go, not proved from fmt's source: count such statements apart). THE CARD IS WHAT COUNTS. Prove the row's statement (the work); the ties are given (YtnamnihdbemkhaaDoorTie.lean); close each card by the builder's one call (the guide's Derived/Test/ToyasCard.lean, 'card_holds'). Laid BY PROGRAM, IN A SANDBOX (cutbox-door.mjs). By AI agents, Wed Nov 11 2026. No macro, syntax, notation, axiom, sorry.
-/
import Derived.Test.YtnamnihdbemkhaaDoorRows
import GoSem.ClaimSeven
namespace Go.Proofs.YtnamnihdbemkhaaDoor
namespace Rows

/-- THE TIED CARD OF 'coffeehouselaw6.NameLetters'. -/
def nameLettersCard : Claim7 := { stood := { row := nameLettersRow, standIns := [], harness := (true, "739bec4819329cda716e2e13197134d41302fb7e7cd687fea3ff24229fb85c20"), looks := true }, kinds := [], alts := [], laidByText := true, laidKinds := [.data, .pinned], laidTests := true, laidLooks := .later }
def NameLettersCardSaid : Prop := Claim7.holds Tryd.pinned (.plain (OpenSpec.ofChange nameLettersSpec)) nameLettersCard

/-- THE TIED CARD OF 'coffeehouselaw6.DescArrays'. -/
def descArraysCard : Claim7 := { stood := { row := descArraysRow, standIns := [], harness := (true, "739bec4819329cda716e2e13197134d41302fb7e7cd687fea3ff24229fb85c20"), looks := true }, kinds := [], alts := [], laidByText := true, laidKinds := [.data, .pinned], laidTests := true, laidLooks := .later }
def DescArraysCardSaid : Prop := Claim7.holds Tryd.pinned (.plain (OpenSpec.ofChange descArraysSpec)) descArraysCard

/-- THE TIED CARD OF 'coffeehouselaw6.UtfCut'. -/
def utfCutCard : Claim7 := { stood := { row := utfCutRow, standIns := [], harness := (true, "739bec4819329cda716e2e13197134d41302fb7e7cd687fea3ff24229fb85c20"), looks := true }, kinds := [], alts := [], laidByText := true, laidKinds := [.data, .pinned], laidTests := true, laidLooks := .later }
def UtfCutCardSaid : Prop := Claim7.holds Tryd.pinned (.plain (OpenSpec.ofChange utfCutSpec)) utfCutCard

/-- THE TIED CARD OF 'coffeehouselaw6.LockFair'. -/
def lockFairCard : Claim7 := { stood := { row := lockFairRow, standIns := [], harness := (true, "739bec4819329cda716e2e13197134d41302fb7e7cd687fea3ff24229fb85c20"), looks := true }, kinds := [], alts := [], laidByText := true, laidKinds := [.data, .pinned], laidTests := true, laidLooks := .later }
def LockFairCardSaid : Prop := Claim7.holds Tryd.pinned (.plain (OpenSpec.ofChange lockFairSpec)) lockFairCard

/-- THE TIED CARD OF 'coffeehouselaw6.NumLogic'. -/
def numLogicCard : Claim7 := { stood := { row := numLogicRow, standIns := [], harness := (true, "739bec4819329cda716e2e13197134d41302fb7e7cd687fea3ff24229fb85c20"), looks := true }, kinds := [], alts := [], laidByText := true, laidKinds := [.data, .pinned], laidTests := true, laidLooks := .later }
def NumLogicCardSaid : Prop := Claim7.holds Tryd.pinned (.plain (OpenSpec.ofChange numLogicSpec)) numLogicCard

/-- THE TIED CARD OF 'coffeehouselaw6.NumTurns'. -/
def numTurnsCard : Claim7 := { stood := { row := numTurnsRow, standIns := [], harness := (true, "739bec4819329cda716e2e13197134d41302fb7e7cd687fea3ff24229fb85c20"), looks := true }, kinds := [], alts := [], laidByText := true, laidKinds := [.data, .pinned], laidTests := true, laidLooks := .later }
def NumTurnsCardSaid : Prop := Claim7.holds Tryd.pinned (.plain (OpenSpec.ofChange numTurnsSpec)) numTurnsCard

/-- THE TIED CARD OF 'coffeehouselaw6.DescJoined'. -/
def descJoinedCard : Claim7 := { stood := { row := descJoinedRow, standIns := [], harness := (true, "739bec4819329cda716e2e13197134d41302fb7e7cd687fea3ff24229fb85c20"), looks := true }, kinds := [], alts := [], laidByText := true, laidKinds := [.data, .pinned], laidTests := true, laidLooks := .later }
def DescJoinedCardSaid : Prop := Claim7.holds Tryd.pinned (.plain (OpenSpec.ofChange descJoinedSpec)) descJoinedCard

/-- THE TIED CARD OF 'coffeehouselaw6.MtypeDrops'. -/
def mtypeDropsCard : Claim7 := { stood := { row := mtypeDropsRow, standIns := [], harness := (true, "739bec4819329cda716e2e13197134d41302fb7e7cd687fea3ff24229fb85c20"), looks := true }, kinds := [], alts := [], laidByText := true, laidKinds := [.data, .pinned], laidTests := true, laidLooks := .later }
def MtypeDropsCardSaid : Prop := Claim7.holds Tryd.pinned (.plain (OpenSpec.ofChange mtypeDropsSpec)) mtypeDropsCard

/-- THE TIED CARD OF 'coffeehouselaw6.FlowAhead'. -/
def flowAheadCard : Claim7 := { stood := { row := flowAheadRow, standIns := [], harness := (true, "739bec4819329cda716e2e13197134d41302fb7e7cd687fea3ff24229fb85c20"), looks := true }, kinds := [], alts := [], laidByText := true, laidKinds := [.data, .data, .pinned], laidTests := true, laidLooks := .later }
def FlowAheadCardSaid : Prop := Claim7.holds Tryd.pinned (.plain (OpenSpec.ofChange flowAheadSpec)) flowAheadCard

/-- THE TIED CARD OF 'coffeehouselaw6.TrimSame'. -/
def trimSameCard : Claim7 := { stood := { row := trimSameRow, standIns := [], harness := (true, "739bec4819329cda716e2e13197134d41302fb7e7cd687fea3ff24229fb85c20"), looks := true }, kinds := [], alts := [], laidByText := true, laidKinds := [.data, .data, .pinned], laidTests := true, laidLooks := .later }
def TrimSameCardSaid : Prop := Claim7.holds Tryd.pinned (.plain (OpenSpec.ofChange trimSameSpec)) trimSameCard

/-- THE SECOND FORM's CARD OF 'coffeehouselaw6.NameLetters'. -/
def nameLettersUptoCard : Claim7 := { stood := { row := nameLettersUptoRow, standIns := [], harness := (true, "739bec4819329cda716e2e13197134d41302fb7e7cd687fea3ff24229fb85c20"), looks := true }, kinds := [], alts := [], laidByText := true, laidKinds := [.data, .pinned], laidTests := true, laidLooks := .later }
def NameLettersUptoCardSaid : Prop := Claim7.holds Tryd.pinned (.plain (OpenSpec.upto nameLettersSpec)) nameLettersUptoCard

/-- THE SECOND FORM's CARD OF 'coffeehouselaw6.DescArrays'. -/
def descArraysUptoCard : Claim7 := { stood := { row := descArraysUptoRow, standIns := [], harness := (true, "739bec4819329cda716e2e13197134d41302fb7e7cd687fea3ff24229fb85c20"), looks := true }, kinds := [], alts := [], laidByText := true, laidKinds := [.data, .pinned], laidTests := true, laidLooks := .later }
def DescArraysUptoCardSaid : Prop := Claim7.holds Tryd.pinned (.plain (OpenSpec.upto descArraysSpec)) descArraysUptoCard

/-- THE SECOND FORM's CARD OF 'coffeehouselaw6.UtfCut'. -/
def utfCutUptoCard : Claim7 := { stood := { row := utfCutUptoRow, standIns := [], harness := (true, "739bec4819329cda716e2e13197134d41302fb7e7cd687fea3ff24229fb85c20"), looks := true }, kinds := [], alts := [], laidByText := true, laidKinds := [.data, .pinned], laidTests := true, laidLooks := .later }
def UtfCutUptoCardSaid : Prop := Claim7.holds Tryd.pinned (.plain (OpenSpec.upto utfCutSpec)) utfCutUptoCard

/-- THE SECOND FORM's CARD OF 'coffeehouselaw6.LockFair'. -/
def lockFairUptoCard : Claim7 := { stood := { row := lockFairUptoRow, standIns := [], harness := (true, "739bec4819329cda716e2e13197134d41302fb7e7cd687fea3ff24229fb85c20"), looks := true }, kinds := [], alts := [], laidByText := true, laidKinds := [.data, .pinned], laidTests := true, laidLooks := .later }
def LockFairUptoCardSaid : Prop := Claim7.holds Tryd.pinned (.plain (OpenSpec.upto lockFairSpec)) lockFairUptoCard

/-- THE SECOND FORM's CARD OF 'coffeehouselaw6.NumLogic'. -/
def numLogicUptoCard : Claim7 := { stood := { row := numLogicUptoRow, standIns := [], harness := (true, "739bec4819329cda716e2e13197134d41302fb7e7cd687fea3ff24229fb85c20"), looks := true }, kinds := [], alts := [], laidByText := true, laidKinds := [.data, .pinned], laidTests := true, laidLooks := .later }
def NumLogicUptoCardSaid : Prop := Claim7.holds Tryd.pinned (.plain (OpenSpec.upto numLogicSpec)) numLogicUptoCard

/-- THE SECOND FORM's CARD OF 'coffeehouselaw6.NumTurns'. -/
def numTurnsUptoCard : Claim7 := { stood := { row := numTurnsUptoRow, standIns := [], harness := (true, "739bec4819329cda716e2e13197134d41302fb7e7cd687fea3ff24229fb85c20"), looks := true }, kinds := [], alts := [], laidByText := true, laidKinds := [.data, .pinned], laidTests := true, laidLooks := .later }
def NumTurnsUptoCardSaid : Prop := Claim7.holds Tryd.pinned (.plain (OpenSpec.upto numTurnsSpec)) numTurnsUptoCard

/-- THE SECOND FORM's CARD OF 'coffeehouselaw6.DescJoined'. -/
def descJoinedUptoCard : Claim7 := { stood := { row := descJoinedUptoRow, standIns := [], harness := (true, "739bec4819329cda716e2e13197134d41302fb7e7cd687fea3ff24229fb85c20"), looks := true }, kinds := [], alts := [], laidByText := true, laidKinds := [.data, .pinned], laidTests := true, laidLooks := .later }
def DescJoinedUptoCardSaid : Prop := Claim7.holds Tryd.pinned (.plain (OpenSpec.upto descJoinedSpec)) descJoinedUptoCard

/-- THE SECOND FORM's CARD OF 'coffeehouselaw6.MtypeDrops'. -/
def mtypeDropsUptoCard : Claim7 := { stood := { row := mtypeDropsUptoRow, standIns := [], harness := (true, "739bec4819329cda716e2e13197134d41302fb7e7cd687fea3ff24229fb85c20"), looks := true }, kinds := [], alts := [], laidByText := true, laidKinds := [.data, .pinned], laidTests := true, laidLooks := .later }
def MtypeDropsUptoCardSaid : Prop := Claim7.holds Tryd.pinned (.plain (OpenSpec.upto mtypeDropsSpec)) mtypeDropsUptoCard

/-- THE SECOND FORM's CARD OF 'coffeehouselaw6.FlowAhead'. -/
def flowAheadUptoCard : Claim7 := { stood := { row := flowAheadUptoRow, standIns := [], harness := (true, "739bec4819329cda716e2e13197134d41302fb7e7cd687fea3ff24229fb85c20"), looks := true }, kinds := [], alts := [], laidByText := true, laidKinds := [.data, .data, .pinned], laidTests := true, laidLooks := .later }
def FlowAheadUptoCardSaid : Prop := Claim7.holds Tryd.pinned (.plain (OpenSpec.upto flowAheadSpec)) flowAheadUptoCard

/-- THE SECOND FORM's CARD OF 'coffeehouselaw6.TrimSame'. -/
def trimSameUptoCard : Claim7 := { stood := { row := trimSameUptoRow, standIns := [], harness := (true, "739bec4819329cda716e2e13197134d41302fb7e7cd687fea3ff24229fb85c20"), looks := true }, kinds := [], alts := [], laidByText := true, laidKinds := [.data, .data, .pinned], laidTests := true, laidLooks := .later }
def TrimSameUptoCardSaid : Prop := Claim7.holds Tryd.pinned (.plain (OpenSpec.upto trimSameSpec)) trimSameUptoCard
end Rows
end Go.Proofs.YtnamnihdbemkhaaDoor
