/-
  NARROWER THAN 'FOR EVERY INPUT', by the rows' own cells (each row's printed sentence says how): NameLetters: laid · DescArrays: laid · UtfCut: laid · LockFair: laid · NumLogic: laid · NumTurns: laid · DescJoined: laid · MtypeDrops: laid · FlowAhead: laid · TrimSame: laid.
  DERIVED. THE GIVEN ROWS OF THIS SEAT. 10 by the template 'for every input the law returns true; each argument reads behind the call as it read before'; 0 by the template 'total and deterministic' (their statements: YtnamnihdbemkhaaDoorTotals.lean).
  GIVEN WITH THE SEED: the statements are not yours to turn. If you find one false, say at which input.
  Laid BY PROGRAM, IN A SANDBOX (cutbox-rows.mjs): the forced cells as the released guide's own fill.sh prints them over the translation c16b8f20ff9bc9ac… (all of the seat's roots in one cut). By AI agents, Wed Nov 11 2026. No macro, syntax, notation, axiom, sorry.
-/
import Derived.Test.YtnamnihdbemkhaaDoorChecked
import GoSem.PinnedTables
import GoSem.Claim
import GoSem.ClaimJoined
import GoSem.ClaimMapViews
import Derived.JoinedTies
import Derived.KernelRfl
namespace Go.Proofs.YtnamnihdbemkhaaDoor
/- THE CELL 'sum', in the pinned program and in every row, IS THE sha256 OF THE DUMP (.gsa) THAT YtnamnihdbemkhaaDoorProg.lean LOADS. Nothing in Lean hashes anything: it is a label: what it is worth is what the hold of that sum in a sandbox is worth. -/
noncomputable def Tryd.pinned : Pinned := { name := "ytnamnihdbemkhaadoor", sum := "c16b8f20ff9bc9aca979d975d19745fdfa95f1d4e3838d203798717fd321a46e", checked := Tryd.checked }
namespace Rows
def none {H : Type} : Left H := { results := [], args := [] }

/- WHAT THE LISTED PACKAGE-LEVEL VARIABLES READ AS WHEN THE CALL BEGINS. Each datum BY PROGRAM (the guide's laid-datum.mjs) off the statement by which the dump's own 'gosem.cut.vars' lays the variable. In a bare row this is a premise. The card (YtnamnihdbemkhaaDoorCards.lean) ties it to the program's text. -/
def laid_unicode_utf8_acceptRanges {H : Type} : DataW H := .agg [.agg [.lit (.int .u8 128), .lit (.int .u8 191)], .agg [.lit (.int .u8 160), .lit (.int .u8 191)], .agg [.lit (.int .u8 128), .lit (.int .u8 159)], .agg [.lit (.int .u8 144), .lit (.int .u8 191)], .agg [.lit (.int .u8 128), .lit (.int .u8 143)], .agg [.lit (.int .u8 0), .lit (.int .u8 0)], .agg [.lit (.int .u8 0), .lit (.int .u8 0)], .agg [.lit (.int .u8 0), .lit (.int .u8 0)], .agg [.lit (.int .u8 0), .lit (.int .u8 0)], .agg [.lit (.int .u8 0), .lit (.int .u8 0)], .agg [.lit (.int .u8 0), .lit (.int .u8 0)], .agg [.lit (.int .u8 0), .lit (.int .u8 0)], .agg [.lit (.int .u8 0), .lit (.int .u8 0)], .agg [.lit (.int .u8 0), .lit (.int .u8 0)], .agg [.lit (.int .u8 0), .lit (.int .u8 0)], .agg [.lit (.int .u8 0), .lit (.int .u8 0)]]
/-- One of Go's own tables, pinned by name: the form's constant. -/
def laid_unicode_utf8_first : DataW Unit := Go.Pinned.utf8First
def laid_coffeehouse_ins_forms {H : Type} : DataW H := .agg [.agg [.lit (.string []), .lit (.string [])], .agg [.lit (.string [110, 111, 112]), .lit (.string [])], .agg [.lit (.string [112, 117, 115, 104]), .lit (.string [65, 84])], .agg [.lit (.string [110, 117, 108, 108]), .lit (.string [])], .agg [.lit (.string [108, 111, 97, 100]), .lit (.string [65])], .agg [.lit (.string [115, 116, 111, 114, 101]), .lit (.string [65])], .agg [.lit (.string [112, 111, 112]), .lit (.string [])], .agg [.lit (.string [100, 117, 112]), .lit (.string [])], .agg [.lit (.string [115, 119, 97, 112]), .lit (.string [])], .agg [.lit (.string [109, 97, 116, 104]), .lit (.string [65, 84])], .agg [.lit (.string [99, 111, 110, 118]), .lit (.string [84])], .agg [.lit (.string [111, 114, 100, 101, 114]), .lit (.string [])], .agg [.lit (.string [105, 102]), .lit (.string [65, 66])], .agg [.lit (.string [105, 102, 110, 117, 108, 108]), .lit (.string [65])], .agg [.lit (.string [103, 111, 116, 111]), .lit (.string [65])], .agg [.lit (.string [110, 101, 119]), .lit (.string [67])], .agg [.lit (.string [103, 101, 116]), .lit (.string [67, 78])], .agg [.lit (.string [112, 117, 116]), .lit (.string [67, 78])], .agg [.lit (.string [110, 101, 119, 97, 114, 114, 97, 121]), .lit (.string [84])], .agg [.lit (.string [108, 101, 110, 103, 116, 104]), .lit (.string [])], .agg [.lit (.string [97, 108, 111, 97, 100]), .lit (.string [84])], .agg [.lit (.string [97, 115, 116, 111, 114, 101]), .lit (.string [84])], .agg [.lit (.string [99, 97, 115, 116]), .lit (.string [84])], .agg [.lit (.string [105, 115]), .lit (.string [84])], .agg [.lit (.string [99, 97, 108, 108]), .lit (.string [84, 67, 78])], .agg [.lit (.string [99, 97, 108, 108, 115]), .lit (.string [84, 67, 78])], .agg [.lit (.string [114, 101, 116, 117, 114, 110]), .lit (.string [])], .agg [.lit (.string [103, 105, 118, 101]), .lit (.string [])], .agg [.lit (.string [116, 104, 114, 111, 119]), .lit (.string [])]]

/-- 'coffeehouselaw6.NameLetters': WHATEVER THE INPUT: true; the input reads as it did. -/
def nameLettersSpec : ChangeSpec := { name := "nameLetters", fn := fun _ => fun
  | [d1, d2, d3] => { results := [.lit (.bool true)], args := [d1, d2, d3] }
  | _ => none }
def nameLettersRow : OpenClaim := { program := "ytnamnihdbemkhaadoor", sum := "c16b8f20ff9bc9aca979d975d19745fdfa95f1d4e3838d203798717fd321a46e", func := "coffeehouse/coffeehouselaw6.NameLetters", spec := "nameLetters", inPlace := ["internal/bytealg.IndexByteString", "internal/bytealg.IndexString"], named := ["unicode/utf8.first", "unicode/utf8.acceptRanges", "internal/bytealg.MaxLen"], apart := false, laid := [("unicode/utf8.acceptRanges", laid_unicode_utf8_acceptRanges), ("unicode/utf8.first", laid_unicode_utf8_first)] }
def NameLettersSaid : Prop := nameLettersRow.holds Tryd.pinned (OpenSpec.ofChange nameLettersSpec)

/-- ITS FALSE NEIGHBOUR: 'it returns false'. Refute it at one input. -/
def nameLettersWrong : ChangeSpec := { name := "nameLetters", fn := fun _ => fun
  | [d1, d2, d3] => { results := [.lit (.bool false)], args := [d1, d2, d3] }
  | _ => none }
def NameLettersWrongFalsely : Prop := nameLettersRow.holds Tryd.pinned (OpenSpec.ofChange nameLettersWrong)

/-- 'coffeehouselaw6.DescArrays': WHATEVER THE INPUT: true; the input reads as it did. -/
def descArraysSpec : ChangeSpec := { name := "descArrays", fn := fun _ => fun
  | [d1, d2] => { results := [.lit (.bool true)], args := [d1, d2] }
  | _ => none }
def descArraysRow : OpenClaim := { program := "ytnamnihdbemkhaadoor", sum := "c16b8f20ff9bc9aca979d975d19745fdfa95f1d4e3838d203798717fd321a46e", func := "coffeehouse/coffeehouselaw6.DescArrays", spec := "descArrays", inPlace := ["internal/bytealg.IndexByteString", "internal/bytealg.IndexString"], named := ["unicode/utf8.first", "unicode/utf8.acceptRanges", "internal/bytealg.MaxLen"], apart := false, laid := [("unicode/utf8.acceptRanges", laid_unicode_utf8_acceptRanges), ("unicode/utf8.first", laid_unicode_utf8_first)] }
def DescArraysSaid : Prop := descArraysRow.holds Tryd.pinned (OpenSpec.ofChange descArraysSpec)

/-- ITS FALSE NEIGHBOUR: 'it returns false'. Refute it at one input. -/
def descArraysWrong : ChangeSpec := { name := "descArrays", fn := fun _ => fun
  | [d1, d2] => { results := [.lit (.bool false)], args := [d1, d2] }
  | _ => none }
def DescArraysWrongFalsely : Prop := descArraysRow.holds Tryd.pinned (OpenSpec.ofChange descArraysWrong)

/-- 'coffeehouselaw6.UtfCut': WHATEVER THE INPUT: true; the input reads as it did. -/
def utfCutSpec : ChangeSpec := { name := "utfCut", fn := fun _ => fun
  | [d1, d2] => { results := [.lit (.bool true)], args := [d1, d2] }
  | _ => none }
def utfCutRow : OpenClaim := { program := "ytnamnihdbemkhaadoor", sum := "c16b8f20ff9bc9aca979d975d19745fdfa95f1d4e3838d203798717fd321a46e", func := "coffeehouse/coffeehouselaw6.UtfCut", spec := "utfCut", inPlace := ["internal/bytealg.IndexByteString", "internal/bytealg.IndexString"], named := ["unicode/utf8.first", "unicode/utf8.acceptRanges", "internal/bytealg.MaxLen"], apart := false, laid := [("unicode/utf8.acceptRanges", laid_unicode_utf8_acceptRanges), ("unicode/utf8.first", laid_unicode_utf8_first)] }
def UtfCutSaid : Prop := utfCutRow.holds Tryd.pinned (OpenSpec.ofChange utfCutSpec)

/-- ITS FALSE NEIGHBOUR: 'it returns false'. Refute it at one input. -/
def utfCutWrong : ChangeSpec := { name := "utfCut", fn := fun _ => fun
  | [d1, d2] => { results := [.lit (.bool false)], args := [d1, d2] }
  | _ => none }
def UtfCutWrongFalsely : Prop := utfCutRow.holds Tryd.pinned (OpenSpec.ofChange utfCutWrong)

/-- 'coffeehouselaw6.LockFair': WHATEVER THE INPUT: true; the input reads as it did. -/
def lockFairSpec : ChangeSpec := { name := "lockFair", fn := fun _ => fun
  | [d1, d2] => { results := [.lit (.bool true)], args := [d1, d2] }
  | _ => none }
def lockFairRow : OpenClaim := { program := "ytnamnihdbemkhaadoor", sum := "c16b8f20ff9bc9aca979d975d19745fdfa95f1d4e3838d203798717fd321a46e", func := "coffeehouse/coffeehouselaw6.LockFair", spec := "lockFair", inPlace := ["internal/bytealg.IndexByteString", "internal/bytealg.IndexString"], named := ["unicode/utf8.first", "unicode/utf8.acceptRanges", "internal/bytealg.MaxLen"], apart := false, laid := [("unicode/utf8.acceptRanges", laid_unicode_utf8_acceptRanges), ("unicode/utf8.first", laid_unicode_utf8_first)] }
def LockFairSaid : Prop := lockFairRow.holds Tryd.pinned (OpenSpec.ofChange lockFairSpec)

/-- ITS FALSE NEIGHBOUR: 'it returns false'. Refute it at one input. -/
def lockFairWrong : ChangeSpec := { name := "lockFair", fn := fun _ => fun
  | [d1, d2] => { results := [.lit (.bool false)], args := [d1, d2] }
  | _ => none }
def LockFairWrongFalsely : Prop := lockFairRow.holds Tryd.pinned (OpenSpec.ofChange lockFairWrong)

/-- 'coffeehouselaw6.NumLogic': WHATEVER THE INPUT: true; the input reads as it did. -/
def numLogicSpec : ChangeSpec := { name := "numLogic", fn := fun _ => fun
  | [d1, d2] => { results := [.lit (.bool true)], args := [d1, d2] }
  | _ => none }
def numLogicRow : OpenClaim := { program := "ytnamnihdbemkhaadoor", sum := "c16b8f20ff9bc9aca979d975d19745fdfa95f1d4e3838d203798717fd321a46e", func := "coffeehouse/coffeehouselaw6.NumLogic", spec := "numLogic", inPlace := ["internal/bytealg.IndexByteString", "internal/bytealg.IndexString"], named := ["unicode/utf8.first", "unicode/utf8.acceptRanges", "internal/bytealg.MaxLen"], apart := false, laid := [("unicode/utf8.acceptRanges", laid_unicode_utf8_acceptRanges), ("unicode/utf8.first", laid_unicode_utf8_first)] }
def NumLogicSaid : Prop := numLogicRow.holds Tryd.pinned (OpenSpec.ofChange numLogicSpec)

/-- ITS FALSE NEIGHBOUR: 'it returns false'. Refute it at one input. -/
def numLogicWrong : ChangeSpec := { name := "numLogic", fn := fun _ => fun
  | [d1, d2] => { results := [.lit (.bool false)], args := [d1, d2] }
  | _ => none }
def NumLogicWrongFalsely : Prop := numLogicRow.holds Tryd.pinned (OpenSpec.ofChange numLogicWrong)

/-- 'coffeehouselaw6.NumTurns': WHATEVER THE INPUT: true; the input reads as it did. -/
def numTurnsSpec : ChangeSpec := { name := "numTurns", fn := fun _ => fun
  | [d1, d2] => { results := [.lit (.bool true)], args := [d1, d2] }
  | _ => none }
def numTurnsRow : OpenClaim := { program := "ytnamnihdbemkhaadoor", sum := "c16b8f20ff9bc9aca979d975d19745fdfa95f1d4e3838d203798717fd321a46e", func := "coffeehouse/coffeehouselaw6.NumTurns", spec := "numTurns", inPlace := ["internal/bytealg.IndexByteString", "internal/bytealg.IndexString"], named := ["unicode/utf8.first", "unicode/utf8.acceptRanges", "internal/bytealg.MaxLen"], apart := false, laid := [("unicode/utf8.acceptRanges", laid_unicode_utf8_acceptRanges), ("unicode/utf8.first", laid_unicode_utf8_first)] }
def NumTurnsSaid : Prop := numTurnsRow.holds Tryd.pinned (OpenSpec.ofChange numTurnsSpec)

/-- ITS FALSE NEIGHBOUR: 'it returns false'. Refute it at one input. -/
def numTurnsWrong : ChangeSpec := { name := "numTurns", fn := fun _ => fun
  | [d1, d2] => { results := [.lit (.bool false)], args := [d1, d2] }
  | _ => none }
def NumTurnsWrongFalsely : Prop := numTurnsRow.holds Tryd.pinned (OpenSpec.ofChange numTurnsWrong)

/-- 'coffeehouselaw6.DescJoined': WHATEVER THE INPUT: true; the input reads as it did. -/
def descJoinedSpec : ChangeSpec := { name := "descJoined", fn := fun _ => fun
  | [d1, d2] => { results := [.lit (.bool true)], args := [d1, d2] }
  | _ => none }
def descJoinedRow : OpenClaim := { program := "ytnamnihdbemkhaadoor", sum := "c16b8f20ff9bc9aca979d975d19745fdfa95f1d4e3838d203798717fd321a46e", func := "coffeehouse/coffeehouselaw6.DescJoined", spec := "descJoined", inPlace := ["internal/bytealg.IndexByteString", "internal/bytealg.IndexString", "internal/abi.NoEscape", "internal/bytealg.MakeNoZero"], named := ["unicode/utf8.first", "unicode/utf8.acceptRanges", "internal/bytealg.MaxLen"], apart := false, laid := [("unicode/utf8.acceptRanges", laid_unicode_utf8_acceptRanges), ("unicode/utf8.first", laid_unicode_utf8_first)] }
def DescJoinedSaid : Prop := descJoinedRow.holds Tryd.pinned (OpenSpec.ofChange descJoinedSpec)

/-- ITS FALSE NEIGHBOUR: 'it returns false'. Refute it at one input. -/
def descJoinedWrong : ChangeSpec := { name := "descJoined", fn := fun _ => fun
  | [d1, d2] => { results := [.lit (.bool false)], args := [d1, d2] }
  | _ => none }
def DescJoinedWrongFalsely : Prop := descJoinedRow.holds Tryd.pinned (OpenSpec.ofChange descJoinedWrong)

/-- 'coffeehouselaw6.MtypeDrops': WHATEVER THE INPUT: true; the input reads as it did. -/
def mtypeDropsSpec : ChangeSpec := { name := "mtypeDrops", fn := fun _ => fun
  | [d1, d2, d3] => { results := [.lit (.bool true)], args := [d1, d2, d3] }
  | _ => none }
def mtypeDropsRow : OpenClaim := { program := "ytnamnihdbemkhaadoor", sum := "c16b8f20ff9bc9aca979d975d19745fdfa95f1d4e3838d203798717fd321a46e", func := "coffeehouse/coffeehouselaw6.MtypeDrops", spec := "mtypeDrops", inPlace := ["internal/bytealg.IndexByteString", "internal/bytealg.IndexString", "internal/abi.NoEscape", "internal/bytealg.MakeNoZero"], unfollowed := true, recurses := true, named := ["unicode/utf8.first", "unicode/utf8.acceptRanges", "internal/bytealg.MaxLen"], apart := false, laid := [("unicode/utf8.acceptRanges", laid_unicode_utf8_acceptRanges), ("unicode/utf8.first", laid_unicode_utf8_first)] }
def MtypeDropsSaid : Prop := mtypeDropsRow.holds Tryd.pinned (OpenSpec.ofChange mtypeDropsSpec)

/-- ITS FALSE NEIGHBOUR: 'it returns false'. Refute it at one input. -/
def mtypeDropsWrong : ChangeSpec := { name := "mtypeDrops", fn := fun _ => fun
  | [d1, d2, d3] => { results := [.lit (.bool false)], args := [d1, d2, d3] }
  | _ => none }
def MtypeDropsWrongFalsely : Prop := mtypeDropsRow.holds Tryd.pinned (OpenSpec.ofChange mtypeDropsWrong)

/-- 'coffeehouselaw6.FlowAhead': WHATEVER THE INPUT: true; the input reads as it did. -/
def flowAheadSpec : ChangeSpec := { name := "flowAhead", fn := fun _ => fun
  | [d] => { results := [.lit (.bool true)], args := [d] }
  | _ => none }
def flowAheadRow : OpenClaim := { program := "ytnamnihdbemkhaadoor", sum := "c16b8f20ff9bc9aca979d975d19745fdfa95f1d4e3838d203798717fd321a46e", func := "coffeehouse/coffeehouselaw6.FlowAhead", spec := "flowAhead", inPlace := ["internal/bytealg.IndexByteString", "internal/bytealg.IndexString"], unfollowed := true, recurses := true, named := ["unicode/utf8.first", "unicode/utf8.acceptRanges", "coffeehouse/ins.forms", "internal/bytealg.MaxLen"], apart := false, laid := [("unicode/utf8.acceptRanges", laid_unicode_utf8_acceptRanges), ("coffeehouse/ins.forms", laid_coffeehouse_ins_forms), ("unicode/utf8.first", laid_unicode_utf8_first)] }
def FlowAheadSaid : Prop := flowAheadRow.holds Tryd.pinned (OpenSpec.ofChange flowAheadSpec)

/-- ITS FALSE NEIGHBOUR: 'it returns false'. Refute it at one input. -/
def flowAheadWrong : ChangeSpec := { name := "flowAhead", fn := fun _ => fun
  | [d] => { results := [.lit (.bool false)], args := [d] }
  | _ => none }
def FlowAheadWrongFalsely : Prop := flowAheadRow.holds Tryd.pinned (OpenSpec.ofChange flowAheadWrong)

/-- 'coffeehouselaw6.TrimSame': WHATEVER THE INPUT: true; the input reads as it did. -/
def trimSameSpec : ChangeSpec := { name := "trimSame", fn := fun _ => fun
  | [d] => { results := [.lit (.bool true)], args := [d] }
  | _ => none }
def trimSameRow : OpenClaim := { program := "ytnamnihdbemkhaadoor", sum := "c16b8f20ff9bc9aca979d975d19745fdfa95f1d4e3838d203798717fd321a46e", func := "coffeehouse/coffeehouselaw6.TrimSame", spec := "trimSame", inPlace := ["internal/bytealg.IndexByteString", "internal/bytealg.IndexString"], unfollowed := true, recurses := true, named := ["unicode/utf8.first", "unicode/utf8.acceptRanges", "coffeehouse/ins.forms", "internal/bytealg.MaxLen"], apart := false, laid := [("unicode/utf8.acceptRanges", laid_unicode_utf8_acceptRanges), ("coffeehouse/ins.forms", laid_coffeehouse_ins_forms), ("unicode/utf8.first", laid_unicode_utf8_first)] }
def TrimSameSaid : Prop := trimSameRow.holds Tryd.pinned (OpenSpec.ofChange trimSameSpec)

/-- ITS FALSE NEIGHBOUR: 'it returns false'. Refute it at one input. -/
def trimSameWrong : ChangeSpec := { name := "trimSame", fn := fun _ => fun
  | [d] => { results := [.lit (.bool false)], args := [d] }
  | _ => none }
def TrimSameWrongFalsely : Prop := trimSameRow.holds Tryd.pinned (OpenSpec.ofChange trimSameWrong)

/- THE SECOND FORM. 'bulk': how many values and letters a reading holds, each counted each time it is reached (what is shared counts as often as it is met; a slice's spare places count too). A statement '..UptoSaid' is the law's where the arguments, and the package variables that the reading takes, are together of bulk at most 1048576: NARROWER than '..Said'. Prove '..Said' where nothing that the law and all that it calls make is longer than what came in: it says more and counts as full. Else prove '..UptoSaid'. A law counts once. -/
mutual
def uptoBulk {H : Type} : DataW H → Nat
  | .lit (.string bytes) => bytes.length + 1
  | .lit _ => 1
  | .nil => 1
  | .ptr d => uptoBulk d + 1
  | .slice elems spare => uptoBulkAll elems + uptoBulkAll spare + 1
  | .agg parts => uptoBulkAll parts + 1
  | .iface _ d => uptoBulk d + 1
  | .map entries => uptoBulkEntries entries + 1
  | .held _ => 1
def uptoBulkAll {H : Type} : List (DataW H) → Nat
  | [] => 0
  | d :: r => uptoBulk d + uptoBulkAll r
def uptoBulkEntries {H : Type} : List (Lit × DataW H) → Nat
  | [] => 0
  | x :: r => uptoBulkEntry x + uptoBulkEntries r
def uptoBulkEntry {H : Type} : Lit × DataW H → Nat
  | (.string bytes, d) => bytes.length + uptoBulk d + 1
  | (_, d) => uptoBulk d + 1
 end
def uptoSmall : (H : Type) → List (DataW H) → Bool := fun _ ds => decide (uptoBulkAll ds ≤ 1048576)
def OpenSpec.upto (s : _root_.Go.ChangeSpec) : _root_.Go.OpenSpec := { _root_.Go.OpenSpec.ofChange s with cond := some uptoSmall }

/-- 'coffeehouselaw6.NameLetters', WHERE WHAT IT READS IS OF BULK AT MOST 1048576: true; the input reads as it did. -/
def nameLettersUptoRow : OpenClaim := { program := "ytnamnihdbemkhaadoor", sum := "c16b8f20ff9bc9aca979d975d19745fdfa95f1d4e3838d203798717fd321a46e", func := "coffeehouse/coffeehouselaw6.NameLetters", spec := "nameLetters", inPlace := ["internal/bytealg.IndexByteString", "internal/bytealg.IndexString"], named := ["unicode/utf8.first", "unicode/utf8.acceptRanges", "internal/bytealg.MaxLen"], apart := false, laid := [("unicode/utf8.acceptRanges", laid_unicode_utf8_acceptRanges), ("unicode/utf8.first", laid_unicode_utf8_first)], narrowed := true }
def NameLettersUptoSaid : Prop := nameLettersUptoRow.holds Tryd.pinned (OpenSpec.upto nameLettersSpec)

/-- 'coffeehouselaw6.DescArrays', WHERE WHAT IT READS IS OF BULK AT MOST 1048576: true; the input reads as it did. -/
def descArraysUptoRow : OpenClaim := { program := "ytnamnihdbemkhaadoor", sum := "c16b8f20ff9bc9aca979d975d19745fdfa95f1d4e3838d203798717fd321a46e", func := "coffeehouse/coffeehouselaw6.DescArrays", spec := "descArrays", inPlace := ["internal/bytealg.IndexByteString", "internal/bytealg.IndexString"], named := ["unicode/utf8.first", "unicode/utf8.acceptRanges", "internal/bytealg.MaxLen"], apart := false, laid := [("unicode/utf8.acceptRanges", laid_unicode_utf8_acceptRanges), ("unicode/utf8.first", laid_unicode_utf8_first)], narrowed := true }
def DescArraysUptoSaid : Prop := descArraysUptoRow.holds Tryd.pinned (OpenSpec.upto descArraysSpec)

/-- 'coffeehouselaw6.UtfCut', WHERE WHAT IT READS IS OF BULK AT MOST 1048576: true; the input reads as it did. -/
def utfCutUptoRow : OpenClaim := { program := "ytnamnihdbemkhaadoor", sum := "c16b8f20ff9bc9aca979d975d19745fdfa95f1d4e3838d203798717fd321a46e", func := "coffeehouse/coffeehouselaw6.UtfCut", spec := "utfCut", inPlace := ["internal/bytealg.IndexByteString", "internal/bytealg.IndexString"], named := ["unicode/utf8.first", "unicode/utf8.acceptRanges", "internal/bytealg.MaxLen"], apart := false, laid := [("unicode/utf8.acceptRanges", laid_unicode_utf8_acceptRanges), ("unicode/utf8.first", laid_unicode_utf8_first)], narrowed := true }
def UtfCutUptoSaid : Prop := utfCutUptoRow.holds Tryd.pinned (OpenSpec.upto utfCutSpec)

/-- 'coffeehouselaw6.LockFair', WHERE WHAT IT READS IS OF BULK AT MOST 1048576: true; the input reads as it did. -/
def lockFairUptoRow : OpenClaim := { program := "ytnamnihdbemkhaadoor", sum := "c16b8f20ff9bc9aca979d975d19745fdfa95f1d4e3838d203798717fd321a46e", func := "coffeehouse/coffeehouselaw6.LockFair", spec := "lockFair", inPlace := ["internal/bytealg.IndexByteString", "internal/bytealg.IndexString"], named := ["unicode/utf8.first", "unicode/utf8.acceptRanges", "internal/bytealg.MaxLen"], apart := false, laid := [("unicode/utf8.acceptRanges", laid_unicode_utf8_acceptRanges), ("unicode/utf8.first", laid_unicode_utf8_first)], narrowed := true }
def LockFairUptoSaid : Prop := lockFairUptoRow.holds Tryd.pinned (OpenSpec.upto lockFairSpec)

/-- 'coffeehouselaw6.NumLogic', WHERE WHAT IT READS IS OF BULK AT MOST 1048576: true; the input reads as it did. -/
def numLogicUptoRow : OpenClaim := { program := "ytnamnihdbemkhaadoor", sum := "c16b8f20ff9bc9aca979d975d19745fdfa95f1d4e3838d203798717fd321a46e", func := "coffeehouse/coffeehouselaw6.NumLogic", spec := "numLogic", inPlace := ["internal/bytealg.IndexByteString", "internal/bytealg.IndexString"], named := ["unicode/utf8.first", "unicode/utf8.acceptRanges", "internal/bytealg.MaxLen"], apart := false, laid := [("unicode/utf8.acceptRanges", laid_unicode_utf8_acceptRanges), ("unicode/utf8.first", laid_unicode_utf8_first)], narrowed := true }
def NumLogicUptoSaid : Prop := numLogicUptoRow.holds Tryd.pinned (OpenSpec.upto numLogicSpec)

/-- 'coffeehouselaw6.NumTurns', WHERE WHAT IT READS IS OF BULK AT MOST 1048576: true; the input reads as it did. -/
def numTurnsUptoRow : OpenClaim := { program := "ytnamnihdbemkhaadoor", sum := "c16b8f20ff9bc9aca979d975d19745fdfa95f1d4e3838d203798717fd321a46e", func := "coffeehouse/coffeehouselaw6.NumTurns", spec := "numTurns", inPlace := ["internal/bytealg.IndexByteString", "internal/bytealg.IndexString"], named := ["unicode/utf8.first", "unicode/utf8.acceptRanges", "internal/bytealg.MaxLen"], apart := false, laid := [("unicode/utf8.acceptRanges", laid_unicode_utf8_acceptRanges), ("unicode/utf8.first", laid_unicode_utf8_first)], narrowed := true }
def NumTurnsUptoSaid : Prop := numTurnsUptoRow.holds Tryd.pinned (OpenSpec.upto numTurnsSpec)

/-- 'coffeehouselaw6.DescJoined', WHERE WHAT IT READS IS OF BULK AT MOST 1048576: true; the input reads as it did. -/
def descJoinedUptoRow : OpenClaim := { program := "ytnamnihdbemkhaadoor", sum := "c16b8f20ff9bc9aca979d975d19745fdfa95f1d4e3838d203798717fd321a46e", func := "coffeehouse/coffeehouselaw6.DescJoined", spec := "descJoined", inPlace := ["internal/bytealg.IndexByteString", "internal/bytealg.IndexString", "internal/abi.NoEscape", "internal/bytealg.MakeNoZero"], named := ["unicode/utf8.first", "unicode/utf8.acceptRanges", "internal/bytealg.MaxLen"], apart := false, laid := [("unicode/utf8.acceptRanges", laid_unicode_utf8_acceptRanges), ("unicode/utf8.first", laid_unicode_utf8_first)], narrowed := true }
def DescJoinedUptoSaid : Prop := descJoinedUptoRow.holds Tryd.pinned (OpenSpec.upto descJoinedSpec)

/-- 'coffeehouselaw6.MtypeDrops', WHERE WHAT IT READS IS OF BULK AT MOST 1048576: true; the input reads as it did. -/
def mtypeDropsUptoRow : OpenClaim := { program := "ytnamnihdbemkhaadoor", sum := "c16b8f20ff9bc9aca979d975d19745fdfa95f1d4e3838d203798717fd321a46e", func := "coffeehouse/coffeehouselaw6.MtypeDrops", spec := "mtypeDrops", inPlace := ["internal/bytealg.IndexByteString", "internal/bytealg.IndexString", "internal/abi.NoEscape", "internal/bytealg.MakeNoZero"], unfollowed := true, recurses := true, named := ["unicode/utf8.first", "unicode/utf8.acceptRanges", "internal/bytealg.MaxLen"], apart := false, laid := [("unicode/utf8.acceptRanges", laid_unicode_utf8_acceptRanges), ("unicode/utf8.first", laid_unicode_utf8_first)], narrowed := true }
def MtypeDropsUptoSaid : Prop := mtypeDropsUptoRow.holds Tryd.pinned (OpenSpec.upto mtypeDropsSpec)

/-- 'coffeehouselaw6.FlowAhead', WHERE WHAT IT READS IS OF BULK AT MOST 1048576: true; the input reads as it did. -/
def flowAheadUptoRow : OpenClaim := { program := "ytnamnihdbemkhaadoor", sum := "c16b8f20ff9bc9aca979d975d19745fdfa95f1d4e3838d203798717fd321a46e", func := "coffeehouse/coffeehouselaw6.FlowAhead", spec := "flowAhead", inPlace := ["internal/bytealg.IndexByteString", "internal/bytealg.IndexString"], unfollowed := true, recurses := true, named := ["unicode/utf8.first", "unicode/utf8.acceptRanges", "coffeehouse/ins.forms", "internal/bytealg.MaxLen"], apart := false, laid := [("unicode/utf8.acceptRanges", laid_unicode_utf8_acceptRanges), ("coffeehouse/ins.forms", laid_coffeehouse_ins_forms), ("unicode/utf8.first", laid_unicode_utf8_first)], narrowed := true }
def FlowAheadUptoSaid : Prop := flowAheadUptoRow.holds Tryd.pinned (OpenSpec.upto flowAheadSpec)

/-- 'coffeehouselaw6.TrimSame', WHERE WHAT IT READS IS OF BULK AT MOST 1048576: true; the input reads as it did. -/
def trimSameUptoRow : OpenClaim := { program := "ytnamnihdbemkhaadoor", sum := "c16b8f20ff9bc9aca979d975d19745fdfa95f1d4e3838d203798717fd321a46e", func := "coffeehouse/coffeehouselaw6.TrimSame", spec := "trimSame", inPlace := ["internal/bytealg.IndexByteString", "internal/bytealg.IndexString"], unfollowed := true, recurses := true, named := ["unicode/utf8.first", "unicode/utf8.acceptRanges", "coffeehouse/ins.forms", "internal/bytealg.MaxLen"], apart := false, laid := [("unicode/utf8.acceptRanges", laid_unicode_utf8_acceptRanges), ("coffeehouse/ins.forms", laid_coffeehouse_ins_forms), ("unicode/utf8.first", laid_unicode_utf8_first)], narrowed := true }
def TrimSameUptoSaid : Prop := trimSameUptoRow.holds Tryd.pinned (OpenSpec.upto trimSameSpec)

end Rows
end Go.Proofs.YtnamnihdbemkhaaDoor
