/-
  The walk of world.Supers.
-/
import Derived.Test.YtpkhfcbkadkadaaGreatDoorWld
namespace Go.Proofs.YtpkhfcbkadkadaaGreatDoor
set_option linter.unusedVariables false
set_option linter.unusedSimpArgs false
open Go.RowKit Go.Shelf Go.Lib

set_option maxRecDepth 100000 in
set_option maxHeartbeats 1000000 in
theorem supers_calls (l : List ClassR) (ps : List CAddr) (a : Option Addr) (cap : Nat) (n : Nm) (w : World) (hC : ClassesAt w a cap l ps) (hF : FormsAt w) (hB : ClsOk l) (hn : n.length ≤ 1048576) :
    Calls Tryz.prog 11 #[.slice a l.length cap, .string ⟨⟨n⟩⟩] w (ListRes (withErr l n) (line (wl l) n) w) := by
  have HR := Lib.hid (with_calls l ps a cap n w hC hF hB hn)
  have hps := Lib.hid hC.1
  have HSU := Lib.hid (cp_sup (ps := ps) hB)
  clear hC hF hB
  go_enter Tryz.func11, Tryz.ntmps11
  go_wp2_with fail
  refine HR.out.mono ?_
  rintro e w2 ⟨hb2, ⟨hne, rfl⟩ | ⟨he0, b, rfl, hwb, hw⟩⟩
  · have HB2 := Lib.hid hb2
    have HNE := Lib.hid hne
    clear hb2
    generalize withErr l n = m at *
    clear hne
    go_wp2_with fail
    go_ret2
    exact ⟨HB2.out, Or.inl ⟨HNE.out, rfl⟩⟩
  · have HB2 := Lib.hid hb2
    have HE := Lib.hid he0
    have hz := hb2.size
    have HLN := Lib.hid (line_calls (wcp l ps) l b n w2 hw (cl_wcp hps.out) (withErr_zero.1 he0).1 hn HSU.out)
    clear hb2 hw he0
    go_wp2_with fail
    refine HLN.out.mono ?_
    rintro e w3 ⟨⟨v, rfl, ho⟩, hb3⟩
    have HB3 := Lib.hid (bl_trans HB2.out hb3)
    have HO := Lib.hid (own_down ho hz)
    clear hb3 ho
    go_wp2_with fail
    go_ret2
    exact ⟨HB3.out, Or.inr ⟨HE.out, v, rfl, HO.out⟩⟩
end Go.Proofs.YtpkhfcbkadkadaaGreatDoor
