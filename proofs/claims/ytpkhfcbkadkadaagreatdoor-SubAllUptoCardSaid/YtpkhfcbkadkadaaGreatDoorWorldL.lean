/-
  The walk of world.All.
-/
import Derived.Test.YtpkhfcbkadkadaaGreatDoorWld
namespace Go.Proofs.YtpkhfcbkadkadaaGreatDoor
set_option linter.unusedVariables false
set_option linter.unusedSimpArgs false
open Go.RowKit Go.Shelf Go.Lib

set_option maxRecDepth 100000 in
set_option maxHeartbeats 1000000 in
theorem all_calls (l : List ClassR) (ps : List CAddr) (a : Option Addr) (cap : Nat) (n : Nm) (w : World) (hC : ClassesAt w a cap l ps) (hF : FormsAt w) (hB : ClsOk l) (hn : n.length ≤ 1048576) :
    Calls Tryz.prog 15 #[.slice a l.length cap, .string ⟨⟨n⟩⟩] w (ListRes (withErr l n) (every (wl l) n) w) := by
  have HR := Lib.hid (with_calls l ps a cap n w hC hF hB hn)
  have hps := Lib.hid hC.1
  have HFA := Lib.hid (cp_faces (ps := ps) hB)
  have HNL := Lib.hid (names_le hB)
  clear hC hF hB
  go_enter Tryz.func15, Tryz.ntmps15
  go_wp2_with fail
  refine HR.out.mono ?_
  rintro e w2 ⟨hb2, ⟨hne, rfl⟩ | ⟨he0, b, rfl, hwb, hw⟩⟩
  · have HB2 := Lib.hid hb2
    have HNE := Lib.hid hne
    clear hb2
    generalize withErr l n = m at *
    clear hne
    go_wp2_with fail
    go_ret2
    exact ⟨HB2.out, Or.inl ⟨HNE.out, rfl⟩⟩
  · have HB2 := Lib.hid hb2
    have HE := Lib.hid he0
    have hz := hb2.size
    have hg := (withErr_zero.1 he0).1
    have HLN := Lib.hid (every_calls (wcp l ps) (n :: names l) b n w2 hw (by rw [cl_wcp hps.out]; exact closed_names hg.join n) (by simp) (by have := good_names hg; simp; omega) (fun x hx => by
      rcases List.mem_cons.1 hx with e | e
      · rw [e]; exact hn
      · exact HNL.out _ e) HFA.out)
    rw [cl_wcp hps.out] at HLN
    clear hb2 hw he0 hg
    go_wp2_with fail
    refine HLN.out.mono ?_
    rintro e w3 ⟨⟨v, rfl, ho⟩, hb3⟩
    have HB3 := Lib.hid (bl_trans HB2.out hb3)
    have HO := Lib.hid (own_down ho hz)
    clear hb3 ho
    go_wp2_with fail
    go_ret2
    exact ⟨HB3.out, Or.inr ⟨HE.out, v, rfl, HO.out⟩⟩
end Go.Proofs.YtpkhfcbkadkadaaGreatDoor
