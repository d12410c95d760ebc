/-
  DERIVED. GIVEN WITH THE SEED: THE CARDS: each row of YtpkhfcbkadkadaaGreatDoorRows.lean that lists a variable, with what it lists TIED to the program's text (the seventh form; the later family's looks); each row that meets fmt, with fmt's text TOLD by the authors' own Lean function (tested against real Go, not proved from fmt's source: count such statements apart). THE CARD IS WHAT COUNTS. Prove the row's statement (the work); the ties are given (YtpkhfcbkadkadaaGreatDoorTie.lean); close each card by the builder's one call (the guide's Derived/Test/ToyasCard.lean, 'card_holds'). Laid BY PROGRAM, IN A SANDBOX (cutbox-door.mjs). By AI agents, Wed Nov 11 2026. No macro, syntax, notation, axiom, sorry.
-/
import Derived.Test.YtpkhfcbkadkadaaGreatDoorRows
import GoSem.ClaimSeven
namespace Go.Proofs.YtpkhfcbkadkadaaGreatDoor
namespace Rows

/-- THE TIED CARD OF 'coffeehouselaw6.VtabSame'. -/
def vtabSameCard : Claim7 := { stood := { row := vtabSameRow, standIns := [], harness := (true, "89286ec2d627a30778a939d0d61dbc4198bd18cb56468fbc4970a132a8caf592"), looks := true }, kinds := [], alts := [], laidByText := true, laidKinds := [.data, .data, .pinned], laidTests := true, laidLooks := .later }
def VtabSameCardSaid : Prop := Claim7.holds Tryz.pinned (.plain (OpenSpec.ofChange vtabSameSpec)) vtabSameCard

/-- THE TIED CARD OF 'coffeehouselaw6.FindOwn'. -/
def findOwnCard : Claim7 := { stood := { row := findOwnRow, standIns := [], harness := (true, "89286ec2d627a30778a939d0d61dbc4198bd18cb56468fbc4970a132a8caf592"), looks := true }, kinds := [], alts := [], laidByText := true, laidKinds := [.data, .data, .pinned], laidTests := true, laidLooks := .later }
def FindOwnCardSaid : Prop := Claim7.holds Tryz.pinned (.plain (OpenSpec.ofChange findOwnSpec)) findOwnCard

/-- THE TIED CARD OF 'coffeehouselaw6.SubAll'. -/
def subAllCard : Claim7 := { stood := { row := subAllRow, standIns := [], harness := (true, "89286ec2d627a30778a939d0d61dbc4198bd18cb56468fbc4970a132a8caf592"), looks := true }, kinds := [], alts := [], laidByText := true, laidKinds := [.data, .data, .pinned], laidTests := true, laidLooks := .later }
def SubAllCardSaid : Prop := Claim7.holds Tryz.pinned (.plain (OpenSpec.ofChange subAllSpec)) subAllCard

/-- THE TIED CARD OF 'coffeehouselaw6.LayApart'. -/
def layApartCard : Claim7 := { stood := { row := layApartRow, standIns := [], harness := (true, "89286ec2d627a30778a939d0d61dbc4198bd18cb56468fbc4970a132a8caf592"), looks := true }, kinds := [], alts := [], laidByText := true, laidKinds := [.data, .data, .pinned], laidTests := true, laidLooks := .later }
def LayApartCardSaid : Prop := Claim7.holds Tryz.pinned (.plain (OpenSpec.ofChange layApartSpec)) layApartCard

/-- THE TIED CARD OF 'coffeehouselaw6.JoinSupers'. -/
def joinSupersCard : Claim7 := { stood := { row := joinSupersRow, standIns := [], harness := (true, "89286ec2d627a30778a939d0d61dbc4198bd18cb56468fbc4970a132a8caf592"), looks := true }, kinds := [], alts := [], laidByText := true, laidKinds := [.data, .data, .pinned], laidTests := true, laidLooks := .later }
def JoinSupersCardSaid : Prop := Claim7.holds Tryz.pinned (.plain (OpenSpec.ofChange joinSupersSpec)) joinSupersCard

/-- THE TIED CARD OF 'coffeehouselaw6.FrameUp'. -/
def frameUpCard : Claim7 := { stood := { row := frameUpRow, standIns := [], harness := (true, "89286ec2d627a30778a939d0d61dbc4198bd18cb56468fbc4970a132a8caf592"), looks := true }, kinds := [], alts := [], laidByText := true, laidKinds := [.data, .data, .pinned], laidTests := true, laidLooks := .later }
def FrameUpCardSaid : Prop := Claim7.holds Tryz.pinned (.plain (OpenSpec.ofChange frameUpSpec)) frameUpCard

/-- THE SECOND FORM's CARD OF 'coffeehouselaw6.VtabSame'. -/
def vtabSameUptoCard : Claim7 := { stood := { row := vtabSameUptoRow, standIns := [], harness := (true, "89286ec2d627a30778a939d0d61dbc4198bd18cb56468fbc4970a132a8caf592"), looks := true }, kinds := [], alts := [], laidByText := true, laidKinds := [.data, .data, .pinned], laidTests := true, laidLooks := .later }
def VtabSameUptoCardSaid : Prop := Claim7.holds Tryz.pinned (.plain (OpenSpec.upto vtabSameSpec)) vtabSameUptoCard

/-- THE SECOND FORM's CARD OF 'coffeehouselaw6.FindOwn'. -/
def findOwnUptoCard : Claim7 := { stood := { row := findOwnUptoRow, standIns := [], harness := (true, "89286ec2d627a30778a939d0d61dbc4198bd18cb56468fbc4970a132a8caf592"), looks := true }, kinds := [], alts := [], laidByText := true, laidKinds := [.data, .data, .pinned], laidTests := true, laidLooks := .later }
def FindOwnUptoCardSaid : Prop := Claim7.holds Tryz.pinned (.plain (OpenSpec.upto findOwnSpec)) findOwnUptoCard

/-- THE SECOND FORM's CARD OF 'coffeehouselaw6.SubAll'. -/
def subAllUptoCard : Claim7 := { stood := { row := subAllUptoRow, standIns := [], harness := (true, "89286ec2d627a30778a939d0d61dbc4198bd18cb56468fbc4970a132a8caf592"), looks := true }, kinds := [], alts := [], laidByText := true, laidKinds := [.data, .data, .pinned], laidTests := true, laidLooks := .later }
def SubAllUptoCardSaid : Prop := Claim7.holds Tryz.pinned (.plain (OpenSpec.upto subAllSpec)) subAllUptoCard

/-- THE SECOND FORM's CARD OF 'coffeehouselaw6.LayApart'. -/
def layApartUptoCard : Claim7 := { stood := { row := layApartUptoRow, standIns := [], harness := (true, "89286ec2d627a30778a939d0d61dbc4198bd18cb56468fbc4970a132a8caf592"), looks := true }, kinds := [], alts := [], laidByText := true, laidKinds := [.data, .data, .pinned], laidTests := true, laidLooks := .later }
def LayApartUptoCardSaid : Prop := Claim7.holds Tryz.pinned (.plain (OpenSpec.upto layApartSpec)) layApartUptoCard

/-- THE SECOND FORM's CARD OF 'coffeehouselaw6.JoinSupers'. -/
def joinSupersUptoCard : Claim7 := { stood := { row := joinSupersUptoRow, standIns := [], harness := (true, "89286ec2d627a30778a939d0d61dbc4198bd18cb56468fbc4970a132a8caf592"), looks := true }, kinds := [], alts := [], laidByText := true, laidKinds := [.data, .data, .pinned], laidTests := true, laidLooks := .later }
def JoinSupersUptoCardSaid : Prop := Claim7.holds Tryz.pinned (.plain (OpenSpec.upto joinSupersSpec)) joinSupersUptoCard

/-- THE SECOND FORM's CARD OF 'coffeehouselaw6.FrameUp'. -/
def frameUpUptoCard : Claim7 := { stood := { row := frameUpUptoRow, standIns := [], harness := (true, "89286ec2d627a30778a939d0d61dbc4198bd18cb56468fbc4970a132a8caf592"), looks := true }, kinds := [], alts := [], laidByText := true, laidKinds := [.data, .data, .pinned], laidTests := true, laidLooks := .later }
def FrameUpUptoCardSaid : Prop := Claim7.holds Tryz.pinned (.plain (OpenSpec.upto frameUpSpec)) frameUpUptoCard
end Rows
end Go.Proofs.YtpkhfcbkadkadaaGreatDoor
