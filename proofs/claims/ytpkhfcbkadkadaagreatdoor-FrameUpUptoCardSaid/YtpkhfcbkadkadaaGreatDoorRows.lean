/-
  NARROWER THAN 'FOR EVERY INPUT', by the rows' own cells (each row's printed sentence says how): VtabSame: laid · FindOwn: laid · SubAll: laid · LayApart: laid · JoinSupers: laid · FrameUp: laid.
  DERIVED. THE GIVEN ROWS OF THIS SEAT. 6 by the template 'for every input the law returns true; each argument reads behind the call as it read before'; 0 by the template 'total and deterministic' (their statements: YtpkhfcbkadkadaaGreatDoorTotals.lean).
  GIVEN WITH THE SEED: the statements are not yours to turn. If you find one false, say at which input.
  Laid BY PROGRAM, IN A SANDBOX (cutbox-rows.mjs): the forced cells as the released guide's own fill.sh prints them over the translation 75a2478daad74f04… (all of the seat's roots in one cut). By AI agents, Wed Nov 11 2026. No macro, syntax, notation, axiom, sorry.
-/
import Derived.Test.YtpkhfcbkadkadaaGreatDoorChecked
import GoSem.PinnedTables
import GoSem.Claim
import GoSem.ClaimJoined
import GoSem.ClaimMapViews
import Derived.JoinedTies
import Derived.KernelRfl
namespace Go.Proofs.YtpkhfcbkadkadaaGreatDoor
/- THE CELL 'sum', in the pinned program and in every row, IS THE sha256 OF THE DUMP (.gsa) THAT YtpkhfcbkadkadaaGreatDoorProg.lean LOADS. Nothing in Lean hashes anything: it is a label: what it is worth is what the hold of that sum in a sandbox is worth. -/
noncomputable def Tryz.pinned : Pinned := { name := "ytpkhfcbkadkadaagreatdoor", sum := "75a2478daad74f043f1351c1d120a2ea24e9073b7816b8e0e03cd2c40dd6c258", checked := Tryz.checked }
namespace Rows
def none {H : Type} : Left H := { results := [], args := [] }

/- WHAT THE LISTED PACKAGE-LEVEL VARIABLES READ AS WHEN THE CALL BEGINS. Each datum BY PROGRAM (the guide's laid-datum.mjs) off the statement by which the dump's own 'gosem.cut.vars' lays the variable. In a bare row this is a premise. The card (YtpkhfcbkadkadaaGreatDoorCards.lean) ties it to the program's text. -/
def laid_unicode_utf8_acceptRanges {H : Type} : DataW H := .agg [.agg [.lit (.int .u8 128), .lit (.int .u8 191)], .agg [.lit (.int .u8 160), .lit (.int .u8 191)], .agg [.lit (.int .u8 128), .lit (.int .u8 159)], .agg [.lit (.int .u8 144), .lit (.int .u8 191)], .agg [.lit (.int .u8 128), .lit (.int .u8 143)], .agg [.lit (.int .u8 0), .lit (.int .u8 0)], .agg [.lit (.int .u8 0), .lit (.int .u8 0)], .agg [.lit (.int .u8 0), .lit (.int .u8 0)], .agg [.lit (.int .u8 0), .lit (.int .u8 0)], .agg [.lit (.int .u8 0), .lit (.int .u8 0)], .agg [.lit (.int .u8 0), .lit (.int .u8 0)], .agg [.lit (.int .u8 0), .lit (.int .u8 0)], .agg [.lit (.int .u8 0), .lit (.int .u8 0)], .agg [.lit (.int .u8 0), .lit (.int .u8 0)], .agg [.lit (.int .u8 0), .lit (.int .u8 0)], .agg [.lit (.int .u8 0), .lit (.int .u8 0)]]
def laid_coffeehouse_ins_forms {H : Type} : DataW H := .agg [.agg [.lit (.string []), .lit (.string [])], .agg [.lit (.string [110, 111, 112]), .lit (.string [])], .agg [.lit (.string [112, 117, 115, 104]), .lit (.string [65, 84])], .agg [.lit (.string [110, 117, 108, 108]), .lit (.string [])], .agg [.lit (.string [108, 111, 97, 100]), .lit (.string [65])], .agg [.lit (.string [115, 116, 111, 114, 101]), .lit (.string [65])], .agg [.lit (.string [112, 111, 112]), .lit (.string [])], .agg [.lit (.string [100, 117, 112]), .lit (.string [])], .agg [.lit (.string [115, 119, 97, 112]), .lit (.string [])], .agg [.lit (.string [109, 97, 116, 104]), .lit (.string [65, 84])], .agg [.lit (.string [99, 111, 110, 118]), .lit (.string [84])], .agg [.lit (.string [111, 114, 100, 101, 114]), .lit (.string [])], .agg [.lit (.string [105, 102]), .lit (.string [65, 66])], .agg [.lit (.string [105, 102, 110, 117, 108, 108]), .lit (.string [65])], .agg [.lit (.string [103, 111, 116, 111]), .lit (.string [65])], .agg [.lit (.string [110, 101, 119]), .lit (.string [67])], .agg [.lit (.string [103, 101, 116]), .lit (.string [67, 78])], .agg [.lit (.string [112, 117, 116]), .lit (.string [67, 78])], .agg [.lit (.string [110, 101, 119, 97, 114, 114, 97, 121]), .lit (.string [84])], .agg [.lit (.string [108, 101, 110, 103, 116, 104]), .lit (.string [])], .agg [.lit (.string [97, 108, 111, 97, 100]), .lit (.string [84])], .agg [.lit (.string [97, 115, 116, 111, 114, 101]), .lit (.string [84])], .agg [.lit (.string [99, 97, 115, 116]), .lit (.string [84])], .agg [.lit (.string [105, 115]), .lit (.string [84])], .agg [.lit (.string [99, 97, 108, 108]), .lit (.string [84, 67, 78])], .agg [.lit (.string [99, 97, 108, 108, 115]), .lit (.string [84, 67, 78])], .agg [.lit (.string [114, 101, 116, 117, 114, 110]), .lit (.string [])], .agg [.lit (.string [103, 105, 118, 101]), .lit (.string [])], .agg [.lit (.string [116, 104, 114, 111, 119]), .lit (.string [])]]
/-- One of Go's own tables, pinned by name: the form's constant. -/
def laid_unicode_utf8_first : DataW Unit := Go.Pinned.utf8First

/-- 'coffeehouselaw6.VtabSame': WHATEVER THE INPUT: true; the input reads as it did. -/
def vtabSameSpec : ChangeSpec := { name := "vtabSame", fn := fun _ => fun
  | [d1, d2, d3, d4] => { results := [.lit (.bool true)], args := [d1, d2, d3, d4] }
  | _ => none }
def vtabSameRow : OpenClaim := { program := "ytpkhfcbkadkadaagreatdoor", sum := "75a2478daad74f043f1351c1d120a2ea24e9073b7816b8e0e03cd2c40dd6c258", func := "coffeehouse/coffeehouselaw6.VtabSame", spec := "vtabSame", inPlace := ["internal/bytealg.IndexByteString", "internal/bytealg.IndexString"], unfollowed := true, recurses := true, named := ["unicode/utf8.first", "unicode/utf8.acceptRanges", "coffeehouse/ins.forms", "internal/bytealg.MaxLen"], apart := false, laid := [("unicode/utf8.acceptRanges", laid_unicode_utf8_acceptRanges), ("coffeehouse/ins.forms", laid_coffeehouse_ins_forms), ("unicode/utf8.first", laid_unicode_utf8_first)] }
def VtabSameSaid : Prop := vtabSameRow.holds Tryz.pinned (OpenSpec.ofChange vtabSameSpec)

/-- ITS FALSE NEIGHBOUR: 'it returns false'. Refute it at one input. -/
def vtabSameWrong : ChangeSpec := { name := "vtabSame", fn := fun _ => fun
  | [d1, d2, d3, d4] => { results := [.lit (.bool false)], args := [d1, d2, d3, d4] }
  | _ => none }
def VtabSameWrongFalsely : Prop := vtabSameRow.holds Tryz.pinned (OpenSpec.ofChange vtabSameWrong)

/-- 'coffeehouselaw6.FindOwn': WHATEVER THE INPUT: true; the input reads as it did. -/
def findOwnSpec : ChangeSpec := { name := "findOwn", fn := fun _ => fun
  | [d1, d2, d3, d4, d5, d6] => { results := [.lit (.bool true)], args := [d1, d2, d3, d4, d5, d6] }
  | _ => none }
def findOwnRow : OpenClaim := { program := "ytpkhfcbkadkadaagreatdoor", sum := "75a2478daad74f043f1351c1d120a2ea24e9073b7816b8e0e03cd2c40dd6c258", func := "coffeehouse/coffeehouselaw6.FindOwn", spec := "findOwn", inPlace := ["internal/bytealg.IndexByteString", "internal/bytealg.IndexString"], unfollowed := true, recurses := true, named := ["unicode/utf8.first", "unicode/utf8.acceptRanges", "coffeehouse/ins.forms", "internal/bytealg.MaxLen"], apart := false, laid := [("unicode/utf8.acceptRanges", laid_unicode_utf8_acceptRanges), ("coffeehouse/ins.forms", laid_coffeehouse_ins_forms), ("unicode/utf8.first", laid_unicode_utf8_first)] }
def FindOwnSaid : Prop := findOwnRow.holds Tryz.pinned (OpenSpec.ofChange findOwnSpec)

/-- ITS FALSE NEIGHBOUR: 'it returns false'. Refute it at one input. -/
def findOwnWrong : ChangeSpec := { name := "findOwn", fn := fun _ => fun
  | [d1, d2, d3, d4, d5, d6] => { results := [.lit (.bool false)], args := [d1, d2, d3, d4, d5, d6] }
  | _ => none }
def FindOwnWrongFalsely : Prop := findOwnRow.holds Tryz.pinned (OpenSpec.ofChange findOwnWrong)

/-- 'coffeehouselaw6.SubAll': WHATEVER THE INPUT: true; the input reads as it did. -/
def subAllSpec : ChangeSpec := { name := "subAll", fn := fun _ => fun
  | [d1, d2, d3] => { results := [.lit (.bool true)], args := [d1, d2, d3] }
  | _ => none }
def subAllRow : OpenClaim := { program := "ytpkhfcbkadkadaagreatdoor", sum := "75a2478daad74f043f1351c1d120a2ea24e9073b7816b8e0e03cd2c40dd6c258", func := "coffeehouse/coffeehouselaw6.SubAll", spec := "subAll", inPlace := ["internal/bytealg.IndexByteString", "internal/bytealg.IndexString"], unfollowed := true, recurses := true, named := ["unicode/utf8.first", "unicode/utf8.acceptRanges", "coffeehouse/ins.forms", "internal/bytealg.MaxLen"], apart := false, laid := [("unicode/utf8.acceptRanges", laid_unicode_utf8_acceptRanges), ("coffeehouse/ins.forms", laid_coffeehouse_ins_forms), ("unicode/utf8.first", laid_unicode_utf8_first)] }
def SubAllSaid : Prop := subAllRow.holds Tryz.pinned (OpenSpec.ofChange subAllSpec)

/-- ITS FALSE NEIGHBOUR: 'it returns false'. Refute it at one input. -/
def subAllWrong : ChangeSpec := { name := "subAll", fn := fun _ => fun
  | [d1, d2, d3] => { results := [.lit (.bool false)], args := [d1, d2, d3] }
  | _ => none }
def SubAllWrongFalsely : Prop := subAllRow.holds Tryz.pinned (OpenSpec.ofChange subAllWrong)

/-- 'coffeehouselaw6.LayApart': WHATEVER THE INPUT: true; the input reads as it did. -/
def layApartSpec : ChangeSpec := { name := "layApart", fn := fun _ => fun
  | [d1, d2, d3, d4] => { results := [.lit (.bool true)], args := [d1, d2, d3, d4] }
  | _ => none }
def layApartRow : OpenClaim := { program := "ytpkhfcbkadkadaagreatdoor", sum := "75a2478daad74f043f1351c1d120a2ea24e9073b7816b8e0e03cd2c40dd6c258", func := "coffeehouse/coffeehouselaw6.LayApart", spec := "layApart", inPlace := ["internal/bytealg.IndexByteString", "internal/bytealg.IndexString"], unfollowed := true, recurses := true, named := ["unicode/utf8.first", "unicode/utf8.acceptRanges", "coffeehouse/ins.forms", "internal/bytealg.MaxLen"], apart := false, laid := [("unicode/utf8.acceptRanges", laid_unicode_utf8_acceptRanges), ("coffeehouse/ins.forms", laid_coffeehouse_ins_forms), ("unicode/utf8.first", laid_unicode_utf8_first)] }
def LayApartSaid : Prop := layApartRow.holds Tryz.pinned (OpenSpec.ofChange layApartSpec)

/-- ITS FALSE NEIGHBOUR: 'it returns false'. Refute it at one input. -/
def layApartWrong : ChangeSpec := { name := "layApart", fn := fun _ => fun
  | [d1, d2, d3, d4] => { results := [.lit (.bool false)], args := [d1, d2, d3, d4] }
  | _ => none }
def LayApartWrongFalsely : Prop := layApartRow.holds Tryz.pinned (OpenSpec.ofChange layApartWrong)

/-- 'coffeehouselaw6.JoinSupers': WHATEVER THE INPUT: true; the input reads as it did. -/
def joinSupersSpec : ChangeSpec := { name := "joinSupers", fn := fun _ => fun
  | [d1, d2, d3] => { results := [.lit (.bool true)], args := [d1, d2, d3] }
  | _ => none }
def joinSupersRow : OpenClaim := { program := "ytpkhfcbkadkadaagreatdoor", sum := "75a2478daad74f043f1351c1d120a2ea24e9073b7816b8e0e03cd2c40dd6c258", func := "coffeehouse/coffeehouselaw6.JoinSupers", spec := "joinSupers", inPlace := ["internal/bytealg.IndexByteString", "internal/bytealg.IndexString"], unfollowed := true, recurses := true, named := ["unicode/utf8.first", "unicode/utf8.acceptRanges", "coffeehouse/ins.forms", "internal/bytealg.MaxLen"], apart := false, laid := [("unicode/utf8.acceptRanges", laid_unicode_utf8_acceptRanges), ("coffeehouse/ins.forms", laid_coffeehouse_ins_forms), ("unicode/utf8.first", laid_unicode_utf8_first)] }
def JoinSupersSaid : Prop := joinSupersRow.holds Tryz.pinned (OpenSpec.ofChange joinSupersSpec)

/-- ITS FALSE NEIGHBOUR: 'it returns false'. Refute it at one input. -/
def joinSupersWrong : ChangeSpec := { name := "joinSupers", fn := fun _ => fun
  | [d1, d2, d3] => { results := [.lit (.bool false)], args := [d1, d2, d3] }
  | _ => none }
def JoinSupersWrongFalsely : Prop := joinSupersRow.holds Tryz.pinned (OpenSpec.ofChange joinSupersWrong)

/-- 'coffeehouselaw6.FrameUp': WHATEVER THE INPUT: true; the input reads as it did. -/
def frameUpSpec : ChangeSpec := { name := "frameUp", fn := fun _ => fun
  | [d1, d2, d3] => { results := [.lit (.bool true)], args := [d1, d2, d3] }
  | _ => none }
def frameUpRow : OpenClaim := { program := "ytpkhfcbkadkadaagreatdoor", sum := "75a2478daad74f043f1351c1d120a2ea24e9073b7816b8e0e03cd2c40dd6c258", func := "coffeehouse/coffeehouselaw6.FrameUp", spec := "frameUp", inPlace := ["internal/bytealg.IndexByteString", "internal/bytealg.IndexString"], unfollowed := true, recurses := true, named := ["unicode/utf8.first", "unicode/utf8.acceptRanges", "coffeehouse/ins.forms", "internal/bytealg.MaxLen"], apart := false, laid := [("unicode/utf8.acceptRanges", laid_unicode_utf8_acceptRanges), ("coffeehouse/ins.forms", laid_coffeehouse_ins_forms), ("unicode/utf8.first", laid_unicode_utf8_first)] }
def FrameUpSaid : Prop := frameUpRow.holds Tryz.pinned (OpenSpec.ofChange frameUpSpec)

/-- ITS FALSE NEIGHBOUR: 'it returns false'. Refute it at one input. -/
def frameUpWrong : ChangeSpec := { name := "frameUp", fn := fun _ => fun
  | [d1, d2, d3] => { results := [.lit (.bool false)], args := [d1, d2, d3] }
  | _ => none }
def FrameUpWrongFalsely : Prop := frameUpRow.holds Tryz.pinned (OpenSpec.ofChange frameUpWrong)

/- THE SECOND FORM. 'bulk': how many values and letters a reading holds, each counted each time it is reached (what is shared counts as often as it is met; a slice's spare places count too). A statement '..UptoSaid' is the law's where the arguments, and the package variables that the reading takes, are together of bulk at most 1048576: NARROWER than '..Said'. Prove '..Said' where nothing that the law and all that it calls make is longer than what came in: it says more and counts as full. Else prove '..UptoSaid'. A law counts once. -/
mutual
def uptoBulk {H : Type} : DataW H → Nat
  | .lit (.string bytes) => bytes.length + 1
  | .lit _ => 1
  | .nil => 1
  | .ptr d => uptoBulk d + 1
  | .slice elems spare => uptoBulkAll elems + uptoBulkAll spare + 1
  | .agg parts => uptoBulkAll parts + 1
  | .iface _ d => uptoBulk d + 1
  | .map entries => uptoBulkEntries entries + 1
  | .held _ => 1
def uptoBulkAll {H : Type} : List (DataW H) → Nat
  | [] => 0
  | d :: r => uptoBulk d + uptoBulkAll r
def uptoBulkEntries {H : Type} : List (Lit × DataW H) → Nat
  | [] => 0
  | x :: r => uptoBulkEntry x + uptoBulkEntries r
def uptoBulkEntry {H : Type} : Lit × DataW H → Nat
  | (.string bytes, d) => bytes.length + uptoBulk d + 1
  | (_, d) => uptoBulk d + 1
 end
def uptoSmall : (H : Type) → List (DataW H) → Bool := fun _ ds => decide (uptoBulkAll ds ≤ 1048576)
def OpenSpec.upto (s : _root_.Go.ChangeSpec) : _root_.Go.OpenSpec := { _root_.Go.OpenSpec.ofChange s with cond := some uptoSmall }

/-- 'coffeehouselaw6.VtabSame', WHERE WHAT IT READS IS OF BULK AT MOST 1048576: true; the input reads as it did. -/
def vtabSameUptoRow : OpenClaim := { program := "ytpkhfcbkadkadaagreatdoor", sum := "75a2478daad74f043f1351c1d120a2ea24e9073b7816b8e0e03cd2c40dd6c258", func := "coffeehouse/coffeehouselaw6.VtabSame", spec := "vtabSame", inPlace := ["internal/bytealg.IndexByteString", "internal/bytealg.IndexString"], unfollowed := true, recurses := true, named := ["unicode/utf8.first", "unicode/utf8.acceptRanges", "coffeehouse/ins.forms", "internal/bytealg.MaxLen"], apart := false, laid := [("unicode/utf8.acceptRanges", laid_unicode_utf8_acceptRanges), ("coffeehouse/ins.forms", laid_coffeehouse_ins_forms), ("unicode/utf8.first", laid_unicode_utf8_first)], narrowed := true }
def VtabSameUptoSaid : Prop := vtabSameUptoRow.holds Tryz.pinned (OpenSpec.upto vtabSameSpec)

/-- 'coffeehouselaw6.FindOwn', WHERE WHAT IT READS IS OF BULK AT MOST 1048576: true; the input reads as it did. -/
def findOwnUptoRow : OpenClaim := { program := "ytpkhfcbkadkadaagreatdoor", sum := "75a2478daad74f043f1351c1d120a2ea24e9073b7816b8e0e03cd2c40dd6c258", func := "coffeehouse/coffeehouselaw6.FindOwn", spec := "findOwn", inPlace := ["internal/bytealg.IndexByteString", "internal/bytealg.IndexString"], unfollowed := true, recurses := true, named := ["unicode/utf8.first", "unicode/utf8.acceptRanges", "coffeehouse/ins.forms", "internal/bytealg.MaxLen"], apart := false, laid := [("unicode/utf8.acceptRanges", laid_unicode_utf8_acceptRanges), ("coffeehouse/ins.forms", laid_coffeehouse_ins_forms), ("unicode/utf8.first", laid_unicode_utf8_first)], narrowed := true }
def FindOwnUptoSaid : Prop := findOwnUptoRow.holds Tryz.pinned (OpenSpec.upto findOwnSpec)

/-- 'coffeehouselaw6.SubAll', WHERE WHAT IT READS IS OF BULK AT MOST 1048576: true; the input reads as it did. -/
def subAllUptoRow : OpenClaim := { program := "ytpkhfcbkadkadaagreatdoor", sum := "75a2478daad74f043f1351c1d120a2ea24e9073b7816b8e0e03cd2c40dd6c258", func := "coffeehouse/coffeehouselaw6.SubAll", spec := "subAll", inPlace := ["internal/bytealg.IndexByteString", "internal/bytealg.IndexString"], unfollowed := true, recurses := true, named := ["unicode/utf8.first", "unicode/utf8.acceptRanges", "coffeehouse/ins.forms", "internal/bytealg.MaxLen"], apart := false, laid := [("unicode/utf8.acceptRanges", laid_unicode_utf8_acceptRanges), ("coffeehouse/ins.forms", laid_coffeehouse_ins_forms), ("unicode/utf8.first", laid_unicode_utf8_first)], narrowed := true }
def SubAllUptoSaid : Prop := subAllUptoRow.holds Tryz.pinned (OpenSpec.upto subAllSpec)

/-- 'coffeehouselaw6.LayApart', WHERE WHAT IT READS IS OF BULK AT MOST 1048576: true; the input reads as it did. -/
def layApartUptoRow : OpenClaim := { program := "ytpkhfcbkadkadaagreatdoor", sum := "75a2478daad74f043f1351c1d120a2ea24e9073b7816b8e0e03cd2c40dd6c258", func := "coffeehouse/coffeehouselaw6.LayApart", spec := "layApart", inPlace := ["internal/bytealg.IndexByteString", "internal/bytealg.IndexString"], unfollowed := true, recurses := true, named := ["unicode/utf8.first", "unicode/utf8.acceptRanges", "coffeehouse/ins.forms", "internal/bytealg.MaxLen"], apart := false, laid := [("unicode/utf8.acceptRanges", laid_unicode_utf8_acceptRanges), ("coffeehouse/ins.forms", laid_coffeehouse_ins_forms), ("unicode/utf8.first", laid_unicode_utf8_first)], narrowed := true }
def LayApartUptoSaid : Prop := layApartUptoRow.holds Tryz.pinned (OpenSpec.upto layApartSpec)

/-- 'coffeehouselaw6.JoinSupers', WHERE WHAT IT READS IS OF BULK AT MOST 1048576: true; the input reads as it did. -/
def joinSupersUptoRow : OpenClaim := { program := "ytpkhfcbkadkadaagreatdoor", sum := "75a2478daad74f043f1351c1d120a2ea24e9073b7816b8e0e03cd2c40dd6c258", func := "coffeehouse/coffeehouselaw6.JoinSupers", spec := "joinSupers", inPlace := ["internal/bytealg.IndexByteString", "internal/bytealg.IndexString"], unfollowed := true, recurses := true, named := ["unicode/utf8.first", "unicode/utf8.acceptRanges", "coffeehouse/ins.forms", "internal/bytealg.MaxLen"], apart := false, laid := [("unicode/utf8.acceptRanges", laid_unicode_utf8_acceptRanges), ("coffeehouse/ins.forms", laid_coffeehouse_ins_forms), ("unicode/utf8.first", laid_unicode_utf8_first)], narrowed := true }
def JoinSupersUptoSaid : Prop := joinSupersUptoRow.holds Tryz.pinned (OpenSpec.upto joinSupersSpec)

/-- 'coffeehouselaw6.FrameUp', WHERE WHAT IT READS IS OF BULK AT MOST 1048576: true; the input reads as it did. -/
def frameUpUptoRow : OpenClaim := { program := "ytpkhfcbkadkadaagreatdoor", sum := "75a2478daad74f043f1351c1d120a2ea24e9073b7816b8e0e03cd2c40dd6c258", func := "coffeehouse/coffeehouselaw6.FrameUp", spec := "frameUp", inPlace := ["internal/bytealg.IndexByteString", "internal/bytealg.IndexString"], unfollowed := true, recurses := true, named := ["unicode/utf8.first", "unicode/utf8.acceptRanges", "coffeehouse/ins.forms", "internal/bytealg.MaxLen"], apart := false, laid := [("unicode/utf8.acceptRanges", laid_unicode_utf8_acceptRanges), ("coffeehouse/ins.forms", laid_coffeehouse_ins_forms), ("unicode/utf8.first", laid_unicode_utf8_first)], narrowed := true }
def FrameUpUptoSaid : Prop := frameUpUptoRow.holds Tryz.pinned (OpenSpec.upto frameUpSpec)

end Rows
end Go.Proofs.YtpkhfcbkadkadaaGreatDoor
