/-
  The walk of right.Call.
-/
import Derived.Test.YtpkhfcbkadkadaaDoorRight1
namespace Go.Proofs.YtpkhfcbkadkadaaDoor
set_option linter.unusedVariables false
set_option linter.unusedSimpArgs false
open Go.RowKit Go.Shelf Go.Lib

set_option maxRecDepth 100000 in
set_option maxHeartbeats 2000000 in
theorem call_calls (l : List ClassR) (ps : List CAddr) (a : Option Addr) (cap : Nat) (fr c n k : Nm) (st : Bool) (w : World) (hC : ClassesAt w a cap l ps) (hF : FormsAt w) (hB : ClsOk l) (hfr : fr.length ≤ 1048576) (hc : c.length ≤ 1048576) :
    Calls Tryd.prog 13 #[.slice a l.length cap, .string ⟨⟨fr⟩⟩, .string ⟨⟨c⟩⟩, .string ⟨⟨n⟩⟩, .string ⟨⟨k⟩⟩, .bool st] w fun e w' => e = .returned (errOf (callErr l fr c n k st)) ∧ Below w.heap.size w w' := by
  have HR := Lib.hid (read_w l ps a cap w hC hF hB)
  clear hC hF hB
  go_enter Tryd.func13, Tryd.ntmps13
  go_wp2_with fail
  refine HR.out.mono ?_
  rintro e w2 ⟨hb2, ⟨hne, rfl⟩ | ⟨h0, b, rfl, hw⟩⟩
  · have HB2 := Lib.hid hb2
    have HE := Lib.hid (show errOf (callErr l fr c n k st) = errV (readErr l) by unfold callErr; rw [if_pos hne, errOf_ne hne])
    clear hb2
    generalize readErr l = z at *
    clear hne
    go_wp2_with fail
    go_ret
    exact ⟨by rw [HE.out]; rfl, HB2.out⟩
  · have HB2 := Lib.hid hb2
    have HE := Lib.hid (show callErr l fr c n k st = foundErr (wl l) fr c n k st by unfold callErr; rw [if_neg (by simp [h0])])
    have HFO := Lib.hid (found_calls l (wcp l ps) b fr c n k st w2 hw hfr hc)
    clear hb2 h0 hw
    go_wp2_with fail
    refine HFO.out.mono ?_
    rintro e w4 ⟨hb4, ⟨hne, rfl⟩ | ⟨h0, x, m, q, _, rfl⟩⟩
    · have HB4 := Lib.hid (bl_trans HB2.out hb4)
      have HE2 := Lib.hid (show errOf (callErr l fr c n k st) = errV (foundErr (wl l) fr c n k st) by rw [HE.out, errOf_ne hne])
      clear hb4 hne
      generalize foundErr (wl l) fr c n k st = z at *
      go_wp2_with fail
      go_ret
      exact ⟨by rw [HE2.out]; rfl, HB4.out⟩
    · have HB4 := Lib.hid (bl_trans HB2.out hb4)
      have HE2 := Lib.hid (show errOf (callErr l fr c n k st) = .nilIface by rw [HE.out, h0]; rfl)
      clear hb4 h0
      go_wp2_with fail
      go_ret
      exact ⟨by rw [HE2.out]; rfl, HB4.out⟩
end Go.Proofs.YtpkhfcbkadkadaaDoor
