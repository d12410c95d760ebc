/-
  The walks of world.Check, With, Supers, All.
-/
import Derived.Test.YtokomofjcnefaaaDoorWorld5
namespace Go.Proofs.YtokomofjcnefaaaDoor
set_option linter.unusedVariables false
set_option linter.unusedSimpArgs false
open Go.RowKit Go.Shelf Go.Lib

theorem good_read {l : List ClassR} (h : Good l) : readErr l = 0 := (readErr_zero l).2 h

set_option maxRecDepth 100000 in
set_option maxHeartbeats 1000000 in
theorem wcheck_calls (l : List ClassR) (ps : List CAddr) (a : Option Addr) (cap : Nat) (w : World) (hC : ClassesAt w a cap l ps) (hF : FormsAt w) (hB : ClsOk l) :
    Calls Tryd.prog 9 #[.slice a l.length cap] w fun e w' => e = .returned (errOf (readErr l)) ∧ Below w.heap.size w w' := by
  have HR := Lib.hid (read_calls l ps a cap w hC hF hB)
  clear hC hF hB
  go_enter Tryd.func9, Tryd.ntmps9
  go_wp2_with fail
  refine HR.out.mono ?_
  rintro e w2 ⟨hb2, ⟨hne, rfl⟩ | ⟨hg, b, rfl, _, _⟩⟩
  · have HB2 := Lib.hid hb2
    have HEE := Lib.hid (errOf_ne hne)
    clear hb2 hne
    go_wp2_with fail
    go_ret
    exact ⟨by rw [HEE.out]; rfl, HB2.out⟩
  · have HB2 := Lib.hid hb2
    have HEE := Lib.hid (show errOf (readErr l) = .nilIface by rw [good_read hg]; rfl)
    clear hb2 hg
    go_wp2_with fail
    go_ret
    exact ⟨by rw [HEE.out]; rfl, HB2.out⟩

open Classical in
noncomputable def withErr (l : List ClassR) (n : Nm) : Int := if readErr l ≠ 0 then readErr l else if n ∈ names l then 0 else 3
theorem withErr_zero {l : List ClassR} {n : Nm} : withErr l n = 0 ↔ Good l ∧ n ∈ names l := by
  unfold withErr
  by_cases h : readErr l = 0
  · rw [if_neg (by simp [h])]
    by_cases h2 : n ∈ names l
    · rw [if_pos h2]; exact ⟨fun _ => ⟨(readErr_zero l).1 h, h2⟩, fun _ => rfl⟩
    · rw [if_neg h2]; exact ⟨fun h => by omega, fun h => absurd h.2 h2⟩
  · rw [if_pos h]; exact ⟨fun h2 => absurd h2 h, fun h2 => absurd (good_read h2.1) h⟩

def WithRes (l : List ClassR) (ps : List CAddr) (n : Nm) (w : World) (e : Ending) (w' : World) : Prop :=
  Below w.heap.size w w' ∧ ((withErr l n ≠ 0 ∧ e = .returned (.tuple #[.map none, errV (withErr l n)])) ∨
    (withErr l n = 0 ∧ ∃ b, e = .returned (.tuple #[.map (some b), .nilIface]) ∧ w.heap.size ≤ b ∧ WorldAt w' b (wcp l ps)))

set_option maxRecDepth 100000 in
set_option maxHeartbeats 1000000 in
theorem with_calls (l : List ClassR) (ps : List CAddr) (a : Option Addr) (cap : Nat) (n : Nm) (w : World) (hC : ClassesAt w a cap l ps) (hF : FormsAt w) (hB : ClsOk l) (hn : n.length ≤ 1048576) :
    Calls Tryd.prog 16 #[.slice a l.length cap, .string ⟨⟨n⟩⟩] w (WithRes l ps n w) := by
  have HR := Lib.hid (read_calls l ps a cap w hC hF hB)
  have hps := Lib.hid hC.1
  have hml : n.length ≤ maxLen := by unfold maxLen; omega
  clear hC hF hB
  go_enter Tryd.func16, Tryd.ntmps16
  go_wp2_with fail
  refine HR.out.mono ?_
  rintro e w2 ⟨hb2, ⟨hne, rfl⟩ | ⟨hg, b, rfl, hwb, hw⟩⟩
  · have HB2 := Lib.hid hb2
    have HEE := Lib.hid (show withErr l n = readErr l by unfold withErr; rw [if_pos hne])
    have HNE := Lib.hid hne
    clear hb2
    generalize readErr l = m at *
    clear hne
    go_wp2_with fail
    go_ret2
    exact ⟨HB2.out, Or.inl ⟨by rw [HEE.out]; exact HNE.out, by rw [HEE.out]; rfl⟩⟩
  · have HB2 := Lib.hid hb2
    have HW := Lib.hid hw
    have hz := HB2.out.size
    have HG := Lib.hid hg
    clear hb2 hw hg
    cases hf : cpFind (wcp l ps) n with
    | none =>
      have HEE := Lib.hid (show withErr l n = 3 by
        unfold withErr
        rw [if_neg (by rw [good_read HG.out]; simp), if_neg]
        intro hm
        have h1 := look_some.2 hm
        rw [← cl_wcp hps.out, isSome_none hf] at h1
        cases h1)
      have hlk := wlook_none HW.out hml hf true
      simp only [if_true] at hlk
      unfold zeroC at hlk
      clear hf
      go_wp2_with fail
      go_ret2
      exact ⟨HB2.out.alloc hz _, Or.inl ⟨by rw [HEE.out]; omega, by rw [HEE.out]; rfl⟩⟩
    | some cp =>
      have HEE := Lib.hid (show withErr l n = 0 from withErr_zero.2 ⟨HG.out, look_some.1 (by
        have := isSome_some hf
        rw [cl_wcp hps.out] at this
        rw [this]; rfl)⟩)
      have hlk := wlook_some HW.out hml hf true
      simp only [if_true] at hlk
      unfold classV at hlk
      clear hf
      go_wp2_with fail
      go_ret2
      exact ⟨HB2.out.alloc hz _, Or.inr ⟨HEE.out, b, rfl, hwb, HW.out.below ((Below.refl _ _).alloc (Nat.le_refl _) _)⟩⟩

def ListRes (err : Int) (A : List Nm) (w : World) (e : Ending) (w' : World) : Prop :=
  Below w.heap.size w w' ∧ ((err ≠ 0 ∧ e = .returned (.tuple #[.slice none 0 0, errV err])) ∨
    (err = 0 ∧ ∃ v, e = .returned (.tuple #[v, .nilIface]) ∧ w'.ownsRow w.heap.size 9 1 v A.length (A.map strV)))

theorem own_down {w : World} {B B' : Nat} {e : TypeId} {size : Nat} {v : Value} {n : Nat} {xs : List Value} (h : w.ownsRow B e size v n xs) (hB : B' ≤ B) : w.ownsRow B' e size v n xs := by
  refine ⟨h.1, ?_⟩
  rcases h.2 with h1 | ⟨g, cap, cur, h1, h2, h3⟩
  · exact Or.inl h1
  · exact Or.inr ⟨g, cap, cur, h1, Nat.le_trans hB h2, h3⟩

set_option maxRecDepth 100000 in
set_option maxHeartbeats 1000000 in
theorem supers_calls (l : List ClassR) (ps : List CAddr) (a : Option Addr) (cap : Nat) (n : Nm) (w : World) (hC : ClassesAt w a cap l ps) (hF : FormsAt w) (hB : ClsOk l) (hn : n.length ≤ 1048576) :
    Calls Tryd.prog 11 #[.slice a l.length cap, .string ⟨⟨n⟩⟩] w (ListRes (withErr l n) (line (wl l) n) w) := by
  have HR := Lib.hid (with_calls l ps a cap n w hC hF hB hn)
  have hps := Lib.hid hC.1
  have HSU := Lib.hid (cp_sup (ps := ps) hB)
  clear hC hF hB
  go_enter Tryd.func11, Tryd.ntmps11
  go_wp2_with fail
  refine HR.out.mono ?_
  rintro e w2 ⟨hb2, ⟨hne, rfl⟩ | ⟨he0, b, rfl, hwb, hw⟩⟩
  · have HB2 := Lib.hid hb2
    have HNE := Lib.hid hne
    clear hb2
    generalize withErr l n = m at *
    clear hne
    go_wp2_with fail
    go_ret2
    exact ⟨HB2.out, Or.inl ⟨HNE.out, rfl⟩⟩
  · have HB2 := Lib.hid hb2
    have HE := Lib.hid he0
    have hz := hb2.size
    have HLN := Lib.hid (line_calls (wcp l ps) l b n w2 hw (cl_wcp hps.out) (withErr_zero.1 he0).1 hn HSU.out)
    clear hb2 hw he0
    go_wp2_with fail
    refine HLN.out.mono ?_
    rintro e w3 ⟨⟨v, rfl, ho⟩, hb3⟩
    have HB3 := Lib.hid (bl_trans HB2.out hb3)
    have HO := Lib.hid (own_down ho hz)
    clear hb3 ho
    go_wp2_with fail
    go_ret2
    exact ⟨HB3.out, Or.inr ⟨HE.out, v, rfl, HO.out⟩⟩

set_option maxRecDepth 100000 in
set_option maxHeartbeats 1000000 in
theorem all_calls (l : List ClassR) (ps : List CAddr) (a : Option Addr) (cap : Nat) (n : Nm) (w : World) (hC : ClassesAt w a cap l ps) (hF : FormsAt w) (hB : ClsOk l) (hn : n.length ≤ 1048576) :
    Calls Tryd.prog 8 #[.slice a l.length cap, .string ⟨⟨n⟩⟩] w (ListRes (withErr l n) (every (wl l) n) w) := by
  have HR := Lib.hid (with_calls l ps a cap n w hC hF hB hn)
  have hps := Lib.hid hC.1
  have HFA := Lib.hid (cp_faces (ps := ps) hB)
  have HNL := Lib.hid (names_le hB)
  clear hC hF hB
  go_enter Tryd.func8, Tryd.ntmps8
  go_wp2_with fail
  refine HR.out.mono ?_
  rintro e w2 ⟨hb2, ⟨hne, rfl⟩ | ⟨he0, b, rfl, hwb, hw⟩⟩
  · have HB2 := Lib.hid hb2
    have HNE := Lib.hid hne
    clear hb2
    generalize withErr l n = m at *
    clear hne
    go_wp2_with fail
    go_ret2
    exact ⟨HB2.out, Or.inl ⟨HNE.out, rfl⟩⟩
  · have HB2 := Lib.hid hb2
    have HE := Lib.hid he0
    have hz := hb2.size
    have hg := (withErr_zero.1 he0).1
    have HLN := Lib.hid (every_calls (wcp l ps) (n :: names l) b n w2 hw (by rw [cl_wcp hps.out]; exact closed_names hg.join n) (by simp) (by have := good_names hg; simp; omega) (fun x hx => by
      rcases List.mem_cons.1 hx with e | e
      · rw [e]; exact hn
      · exact HNL.out _ e) HFA.out)
    rw [cl_wcp hps.out] at HLN
    clear hb2 hw he0 hg
    go_wp2_with fail
    refine HLN.out.mono ?_
    rintro e w3 ⟨⟨v, rfl, ho⟩, hb3⟩
    have HB3 := Lib.hid (bl_trans HB2.out hb3)
    have HO := Lib.hid (own_down ho hz)
    clear hb3 ho
    go_wp2_with fail
    go_ret2
    exact ⟨HB3.out, Or.inr ⟨HE.out, v, rfl, HO.out⟩⟩
end Go.Proofs.YtokomofjcnefaaaDoor
