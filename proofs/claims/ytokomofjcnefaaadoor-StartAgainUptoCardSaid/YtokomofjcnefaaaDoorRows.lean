/-
  NARROWER THAN 'FOR EVERY INPUT', by the rows' own cells (each row's printed sentence says how): WorldMore: laid · WorldRound: laid · CatchNone: laid · StartAgain: laid.
  DERIVED. THE GIVEN ROWS OF THIS SEAT. 4 by the template 'for every input the law returns true; each argument reads behind the call as it read before'; 0 by the template 'total and deterministic' (their statements: YtokomofjcnefaaaDoorTotals.lean).
  GIVEN WITH THE SEED: the statements are not yours to turn. If you find one false, say at which input.
  Laid BY PROGRAM, IN A SANDBOX (cutbox-rows.mjs): the forced cells as the released guide's own fill.sh prints them over the translation 3d7cdcc84e9165e5… (all of the seat's roots in one cut). By AI agents, Wed Nov 11 2026. No macro, syntax, notation, axiom, sorry.
-/
import Derived.Test.YtokomofjcnefaaaDoorChecked
import GoSem.PinnedTables
import GoSem.Claim
import GoSem.ClaimJoined
import GoSem.ClaimMapViews
import Derived.JoinedTies
import Derived.KernelRfl
namespace Go.Proofs.YtokomofjcnefaaaDoor
/- THE CELL 'sum', in the pinned program and in every row, IS THE sha256 OF THE DUMP (.gsa) THAT YtokomofjcnefaaaDoorProg.lean LOADS. Nothing in Lean hashes anything: it is a label: what it is worth is what the hold of that sum in a sandbox is worth. -/
noncomputable def Tryd.pinned : Pinned := { name := "ytokomofjcnefaaadoor", sum := "3d7cdcc84e9165e56590b53ececdc20af2292ba59668a962153b9f086a8eb898", checked := Tryd.checked }
namespace Rows
def none {H : Type} : Left H := { results := [], args := [] }

/- WHAT THE LISTED PACKAGE-LEVEL VARIABLES READ AS WHEN THE CALL BEGINS. Each datum BY PROGRAM (the guide's laid-datum.mjs) off the statement by which the dump's own 'gosem.cut.vars' lays the variable. In a bare row this is a premise. The card (YtokomofjcnefaaaDoorCards.lean) ties it to the program's text. -/
def laid_unicode_utf8_acceptRanges {H : Type} : DataW H := .agg [.agg [.lit (.int .u8 128), .lit (.int .u8 191)], .agg [.lit (.int .u8 160), .lit (.int .u8 191)], .agg [.lit (.int .u8 128), .lit (.int .u8 159)], .agg [.lit (.int .u8 144), .lit (.int .u8 191)], .agg [.lit (.int .u8 128), .lit (.int .u8 143)], .agg [.lit (.int .u8 0), .lit (.int .u8 0)], .agg [.lit (.int .u8 0), .lit (.int .u8 0)], .agg [.lit (.int .u8 0), .lit (.int .u8 0)], .agg [.lit (.int .u8 0), .lit (.int .u8 0)], .agg [.lit (.int .u8 0), .lit (.int .u8 0)], .agg [.lit (.int .u8 0), .lit (.int .u8 0)], .agg [.lit (.int .u8 0), .lit (.int .u8 0)], .agg [.lit (.int .u8 0), .lit (.int .u8 0)], .agg [.lit (.int .u8 0), .lit (.int .u8 0)], .agg [.lit (.int .u8 0), .lit (.int .u8 0)], .agg [.lit (.int .u8 0), .lit (.int .u8 0)]]
def laid_coffeehouse_ins_forms {H : Type} : DataW H := .agg [.agg [.lit (.string []), .lit (.string [])], .agg [.lit (.string [110, 111, 112]), .lit (.string [])], .agg [.lit (.string [112, 117, 115, 104]), .lit (.string [65, 84])], .agg [.lit (.string [110, 117, 108, 108]), .lit (.string [])], .agg [.lit (.string [108, 111, 97, 100]), .lit (.string [65])], .agg [.lit (.string [115, 116, 111, 114, 101]), .lit (.string [65])], .agg [.lit (.string [112, 111, 112]), .lit (.string [])], .agg [.lit (.string [100, 117, 112]), .lit (.string [])], .agg [.lit (.string [115, 119, 97, 112]), .lit (.string [])], .agg [.lit (.string [109, 97, 116, 104]), .lit (.string [65, 84])], .agg [.lit (.string [99, 111, 110, 118]), .lit (.string [84])], .agg [.lit (.string [111, 114, 100, 101, 114]), .lit (.string [])], .agg [.lit (.string [105, 102]), .lit (.string [65, 66])], .agg [.lit (.string [105, 102, 110, 117, 108, 108]), .lit (.string [65])], .agg [.lit (.string [103, 111, 116, 111]), .lit (.string [65])], .agg [.lit (.string [110, 101, 119]), .lit (.string [67])], .agg [.lit (.string [103, 101, 116]), .lit (.string [67, 78])], .agg [.lit (.string [112, 117, 116]), .lit (.string [67, 78])], .agg [.lit (.string [110, 101, 119, 97, 114, 114, 97, 121]), .lit (.string [84])], .agg [.lit (.string [108, 101, 110, 103, 116, 104]), .lit (.string [])], .agg [.lit (.string [97, 108, 111, 97, 100]), .lit (.string [84])], .agg [.lit (.string [97, 115, 116, 111, 114, 101]), .lit (.string [84])], .agg [.lit (.string [99, 97, 115, 116]), .lit (.string [84])], .agg [.lit (.string [105, 115]), .lit (.string [84])], .agg [.lit (.string [99, 97, 108, 108]), .lit (.string [84, 67, 78])], .agg [.lit (.string [99, 97, 108, 108, 115]), .lit (.string [84, 67, 78])], .agg [.lit (.string [114, 101, 116, 117, 114, 110]), .lit (.string [])], .agg [.lit (.string [103, 105, 118, 101]), .lit (.string [])], .agg [.lit (.string [116, 104, 114, 111, 119]), .lit (.string [])]]
/-- One of Go's own tables, pinned by name: the form's constant. -/
def laid_unicode_utf8_first : DataW Unit := Go.Pinned.utf8First

/-- 'coffeehouselaw6.WorldMore': WHATEVER THE INPUT: true; the input reads as it did. -/
def worldMoreSpec : ChangeSpec := { name := "worldMore", fn := fun _ => fun
  | [d1, d2, d3] => { results := [.lit (.bool true)], args := [d1, d2, d3] }
  | _ => none }
def worldMoreRow : OpenClaim := { program := "ytokomofjcnefaaadoor", sum := "3d7cdcc84e9165e56590b53ececdc20af2292ba59668a962153b9f086a8eb898", func := "coffeehouse/coffeehouselaw6.WorldMore", spec := "worldMore", inPlace := ["internal/bytealg.IndexByteString", "internal/bytealg.IndexString"], unfollowed := true, recurses := true, named := ["unicode/utf8.first", "unicode/utf8.acceptRanges", "coffeehouse/ins.forms", "internal/bytealg.MaxLen"], apart := false, laid := [("unicode/utf8.acceptRanges", laid_unicode_utf8_acceptRanges), ("coffeehouse/ins.forms", laid_coffeehouse_ins_forms), ("unicode/utf8.first", laid_unicode_utf8_first)] }
def WorldMoreSaid : Prop := worldMoreRow.holds Tryd.pinned (OpenSpec.ofChange worldMoreSpec)

/-- ITS FALSE NEIGHBOUR: 'it returns false'. Refute it at one input. -/
def worldMoreWrong : ChangeSpec := { name := "worldMore", fn := fun _ => fun
  | [d1, d2, d3] => { results := [.lit (.bool false)], args := [d1, d2, d3] }
  | _ => none }
def WorldMoreWrongFalsely : Prop := worldMoreRow.holds Tryd.pinned (OpenSpec.ofChange worldMoreWrong)

/-- 'coffeehouselaw6.WorldRound': WHATEVER THE INPUT: true; the input reads as it did. -/
def worldRoundSpec : ChangeSpec := { name := "worldRound", fn := fun _ => fun
  | [d1, d2, d3] => { results := [.lit (.bool true)], args := [d1, d2, d3] }
  | _ => none }
def worldRoundRow : OpenClaim := { program := "ytokomofjcnefaaadoor", sum := "3d7cdcc84e9165e56590b53ececdc20af2292ba59668a962153b9f086a8eb898", func := "coffeehouse/coffeehouselaw6.WorldRound", spec := "worldRound", inPlace := ["internal/bytealg.IndexByteString", "internal/bytealg.IndexString"], unfollowed := true, recurses := true, named := ["unicode/utf8.first", "unicode/utf8.acceptRanges", "coffeehouse/ins.forms", "internal/bytealg.MaxLen"], apart := false, laid := [("unicode/utf8.acceptRanges", laid_unicode_utf8_acceptRanges), ("coffeehouse/ins.forms", laid_coffeehouse_ins_forms), ("unicode/utf8.first", laid_unicode_utf8_first)] }
def WorldRoundSaid : Prop := worldRoundRow.holds Tryd.pinned (OpenSpec.ofChange worldRoundSpec)

/-- ITS FALSE NEIGHBOUR: 'it returns false'. Refute it at one input. -/
def worldRoundWrong : ChangeSpec := { name := "worldRound", fn := fun _ => fun
  | [d1, d2, d3] => { results := [.lit (.bool false)], args := [d1, d2, d3] }
  | _ => none }
def WorldRoundWrongFalsely : Prop := worldRoundRow.holds Tryd.pinned (OpenSpec.ofChange worldRoundWrong)

/-- 'coffeehouselaw6.CatchNone': WHATEVER THE INPUT: true; the input reads as it did. -/
def catchNoneSpec : ChangeSpec := { name := "catchNone", fn := fun _ => fun
  | [d1, d2, d3] => { results := [.lit (.bool true)], args := [d1, d2, d3] }
  | _ => none }
def catchNoneRow : OpenClaim := { program := "ytokomofjcnefaaadoor", sum := "3d7cdcc84e9165e56590b53ececdc20af2292ba59668a962153b9f086a8eb898", func := "coffeehouse/coffeehouselaw6.CatchNone", spec := "catchNone", inPlace := ["internal/bytealg.IndexByteString", "internal/bytealg.IndexString"], unfollowed := true, recurses := true, named := ["unicode/utf8.first", "unicode/utf8.acceptRanges", "coffeehouse/ins.forms", "internal/bytealg.MaxLen"], apart := false, laid := [("unicode/utf8.acceptRanges", laid_unicode_utf8_acceptRanges), ("coffeehouse/ins.forms", laid_coffeehouse_ins_forms), ("unicode/utf8.first", laid_unicode_utf8_first)] }
def CatchNoneSaid : Prop := catchNoneRow.holds Tryd.pinned (OpenSpec.ofChange catchNoneSpec)

/-- ITS FALSE NEIGHBOUR: 'it returns false'. Refute it at one input. -/
def catchNoneWrong : ChangeSpec := { name := "catchNone", fn := fun _ => fun
  | [d1, d2, d3] => { results := [.lit (.bool false)], args := [d1, d2, d3] }
  | _ => none }
def CatchNoneWrongFalsely : Prop := catchNoneRow.holds Tryd.pinned (OpenSpec.ofChange catchNoneWrong)

/-- 'coffeehouselaw6.StartAgain': WHATEVER THE INPUT: true; the input reads as it did. -/
def startAgainSpec : ChangeSpec := { name := "startAgain", fn := fun _ => fun
  | [d1, d2, d3] => { results := [.lit (.bool true)], args := [d1, d2, d3] }
  | _ => none }
def startAgainRow : OpenClaim := { program := "ytokomofjcnefaaadoor", sum := "3d7cdcc84e9165e56590b53ececdc20af2292ba59668a962153b9f086a8eb898", func := "coffeehouse/coffeehouselaw6.StartAgain", spec := "startAgain", inPlace := ["internal/bytealg.IndexByteString", "internal/bytealg.IndexString"], unfollowed := true, recurses := true, named := ["unicode/utf8.first", "unicode/utf8.acceptRanges", "coffeehouse/ins.forms", "internal/bytealg.MaxLen"], apart := false, laid := [("unicode/utf8.acceptRanges", laid_unicode_utf8_acceptRanges), ("coffeehouse/ins.forms", laid_coffeehouse_ins_forms), ("unicode/utf8.first", laid_unicode_utf8_first)] }
def StartAgainSaid : Prop := startAgainRow.holds Tryd.pinned (OpenSpec.ofChange startAgainSpec)

/-- ITS FALSE NEIGHBOUR: 'it returns false'. Refute it at one input. -/
def startAgainWrong : ChangeSpec := { name := "startAgain", fn := fun _ => fun
  | [d1, d2, d3] => { results := [.lit (.bool false)], args := [d1, d2, d3] }
  | _ => none }
def StartAgainWrongFalsely : Prop := startAgainRow.holds Tryd.pinned (OpenSpec.ofChange startAgainWrong)

/- THE SECOND FORM. 'bulk': how many values and letters a reading holds, each counted each time it is reached (what is shared counts as often as it is met; a slice's spare places count too). A statement '..UptoSaid' is the law's where the arguments, and the package variables that the reading takes, are together of bulk at most 1048576: NARROWER than '..Said'. Prove '..Said' where nothing that the law and all that it calls make is longer than what came in: it says more and counts as full. Else prove '..UptoSaid'. A law counts once. -/
mutual
def uptoBulk {H : Type} : DataW H → Nat
  | .lit (.string bytes) => bytes.length + 1
  | .lit _ => 1
  | .nil => 1
  | .ptr d => uptoBulk d + 1
  | .slice elems spare => uptoBulkAll elems + uptoBulkAll spare + 1
  | .agg parts => uptoBulkAll parts + 1
  | .iface _ d => uptoBulk d + 1
  | .map entries => uptoBulkEntries entries + 1
  | .held _ => 1
def uptoBulkAll {H : Type} : List (DataW H) → Nat
  | [] => 0
  | d :: r => uptoBulk d + uptoBulkAll r
def uptoBulkEntries {H : Type} : List (Lit × DataW H) → Nat
  | [] => 0
  | x :: r => uptoBulkEntry x + uptoBulkEntries r
def uptoBulkEntry {H : Type} : Lit × DataW H → Nat
  | (.string bytes, d) => bytes.length + uptoBulk d + 1
  | (_, d) => uptoBulk d + 1
 end
def uptoSmall : (H : Type) → List (DataW H) → Bool := fun _ ds => decide (uptoBulkAll ds ≤ 1048576)
def OpenSpec.upto (s : _root_.Go.ChangeSpec) : _root_.Go.OpenSpec := { _root_.Go.OpenSpec.ofChange s with cond := some uptoSmall }

/-- 'coffeehouselaw6.WorldMore', WHERE WHAT IT READS IS OF BULK AT MOST 1048576: true; the input reads as it did. -/
def worldMoreUptoRow : OpenClaim := { program := "ytokomofjcnefaaadoor", sum := "3d7cdcc84e9165e56590b53ececdc20af2292ba59668a962153b9f086a8eb898", func := "coffeehouse/coffeehouselaw6.WorldMore", spec := "worldMore", inPlace := ["internal/bytealg.IndexByteString", "internal/bytealg.IndexString"], unfollowed := true, recurses := true, named := ["unicode/utf8.first", "unicode/utf8.acceptRanges", "coffeehouse/ins.forms", "internal/bytealg.MaxLen"], apart := false, laid := [("unicode/utf8.acceptRanges", laid_unicode_utf8_acceptRanges), ("coffeehouse/ins.forms", laid_coffeehouse_ins_forms), ("unicode/utf8.first", laid_unicode_utf8_first)], narrowed := true }
def WorldMoreUptoSaid : Prop := worldMoreUptoRow.holds Tryd.pinned (OpenSpec.upto worldMoreSpec)

/-- 'coffeehouselaw6.WorldRound', WHERE WHAT IT READS IS OF BULK AT MOST 1048576: true; the input reads as it did. -/
def worldRoundUptoRow : OpenClaim := { program := "ytokomofjcnefaaadoor", sum := "3d7cdcc84e9165e56590b53ececdc20af2292ba59668a962153b9f086a8eb898", func := "coffeehouse/coffeehouselaw6.WorldRound", spec := "worldRound", inPlace := ["internal/bytealg.IndexByteString", "internal/bytealg.IndexString"], unfollowed := true, recurses := true, named := ["unicode/utf8.first", "unicode/utf8.acceptRanges", "coffeehouse/ins.forms", "internal/bytealg.MaxLen"], apart := false, laid := [("unicode/utf8.acceptRanges", laid_unicode_utf8_acceptRanges), ("coffeehouse/ins.forms", laid_coffeehouse_ins_forms), ("unicode/utf8.first", laid_unicode_utf8_first)], narrowed := true }
def WorldRoundUptoSaid : Prop := worldRoundUptoRow.holds Tryd.pinned (OpenSpec.upto worldRoundSpec)

/-- 'coffeehouselaw6.CatchNone', WHERE WHAT IT READS IS OF BULK AT MOST 1048576: true; the input reads as it did. -/
def catchNoneUptoRow : OpenClaim := { program := "ytokomofjcnefaaadoor", sum := "3d7cdcc84e9165e56590b53ececdc20af2292ba59668a962153b9f086a8eb898", func := "coffeehouse/coffeehouselaw6.CatchNone", spec := "catchNone", inPlace := ["internal/bytealg.IndexByteString", "internal/bytealg.IndexString"], unfollowed := true, recurses := true, named := ["unicode/utf8.first", "unicode/utf8.acceptRanges", "coffeehouse/ins.forms", "internal/bytealg.MaxLen"], apart := false, laid := [("unicode/utf8.acceptRanges", laid_unicode_utf8_acceptRanges), ("coffeehouse/ins.forms", laid_coffeehouse_ins_forms), ("unicode/utf8.first", laid_unicode_utf8_first)], narrowed := true }
def CatchNoneUptoSaid : Prop := catchNoneUptoRow.holds Tryd.pinned (OpenSpec.upto catchNoneSpec)

/-- 'coffeehouselaw6.StartAgain', WHERE WHAT IT READS IS OF BULK AT MOST 1048576: true; the input reads as it did. -/
def startAgainUptoRow : OpenClaim := { program := "ytokomofjcnefaaadoor", sum := "3d7cdcc84e9165e56590b53ececdc20af2292ba59668a962153b9f086a8eb898", func := "coffeehouse/coffeehouselaw6.StartAgain", spec := "startAgain", inPlace := ["internal/bytealg.IndexByteString", "internal/bytealg.IndexString"], unfollowed := true, recurses := true, named := ["unicode/utf8.first", "unicode/utf8.acceptRanges", "coffeehouse/ins.forms", "internal/bytealg.MaxLen"], apart := false, laid := [("unicode/utf8.acceptRanges", laid_unicode_utf8_acceptRanges), ("coffeehouse/ins.forms", laid_coffeehouse_ins_forms), ("unicode/utf8.first", laid_unicode_utf8_first)], narrowed := true }
def StartAgainUptoSaid : Prop := startAgainUptoRow.holds Tryd.pinned (OpenSpec.upto startAgainSpec)

end Rows
end Go.Proofs.YtokomofjcnefaaaDoor
