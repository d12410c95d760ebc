/-
  The walk of sub.Read.
-/
import Derived.Test.YtpkhfcbkadkadaaGreatDoorKind1
namespace Go.Proofs.YtpkhfcbkadkadaaGreatDoor
set_option linter.unusedVariables false
set_option linter.unusedSimpArgs false
open Go.RowKit Go.Shelf Go.Lib

theorem run_eql_nil_iface {P : Program} (w : World) {t tx : TypeId} {ms : Array (String × TypeId)} (v : Value) (ht : P.underlying t = some (.interface ms)) :
    (binOp .eql t .nilIface (.iface tx v)).run P w = .ok (.bool false) w := by
  have h : ∀ d : Nat, (Op.equalIn (d + 1) t .nilIface (.iface tx v)).run P w = .ok false w := fun d => by
    simp [Op.equalIn, run_underlying ht]
  simp only [binOp]
  simp [Op.equal, Op.maxDepth, h 9999]
@[go_sem] theorem run_eql_nil_errno (w : World) (a : Int) : (binOp .eql 26 .nilIface (.iface 72 (.int .i64 a))).run Tryz.prog w = .ok (.bool false) w :=
  run_eql_nil_iface w _ Tryz.underlying26
theorem kind_vals (L : List ClassR) (t : Nm) : kindErr L t = 0 ∨ kindErr L t = 1 ∨ kindErr L t = 3 := by
  unfold kindErr
  split
  · exact Or.inl rfl
  split
  · exact Or.inr (Or.inl rfl)
  split
  · exact Or.inr (Or.inr rfl)
  · exact Or.inl rfl
def kinds2 (x y : Int) : Int := if x = 1 ∨ y = 1 then 1 else if x ≠ 0 ∨ y ≠ 0 then 3 else 0
noncomputable def read2Err (l : List ClassR) (s t : Nm) : Int := if readErr l ≠ 0 then readErr l else kinds2 (kindErr (wl l) s) (kindErr (wl l) t)
def Read2Res (err : Int) (l : List ClassR) (ps : List CAddr) (w : World) (e : Ending) (w' : World) : Prop :=
  Below w.heap.size w w' ∧ ((err ≠ 0 ∧ e = .returned (.tuple #[.map none, errV err])) ∨
    (err = 0 ∧ ∃ b, e = .returned (.tuple #[.map (some b), .nilIface]) ∧ WOk w' b l (wcp l ps)))
theorem kinds2_zero {x y : Int} : kinds2 x y = 0 ↔ x = 0 ∧ y = 0 := by
  unfold kinds2
  split
  · rename_i h; omega
  · split
    · omega
    · rename_i h1 h2; exact ⟨fun _ => by omega, fun _ => rfl⟩
theorem read2_zero {l : List ClassR} {s t : Nm} : read2Err l s t = 0 ↔ Good l ∧ kindErr (wl l) s = 0 ∧ kindErr (wl l) t = 0 := by
  unfold read2Err
  by_cases h : readErr l = 0
  · rw [if_neg (by simp [h]), kinds2_zero]
    exact ⟨fun q => ⟨(readErr_zero l).1 h, q⟩, fun q => q.2⟩
  · rw [if_pos h]
    exact ⟨fun q => absurd q h, fun q => absurd (good_read q.1) h⟩

set_option maxRecDepth 100000 in
set_option maxHeartbeats 4000000 in
theorem read2_calls (l : List ClassR) (ps : List CAddr) (a : Option Addr) (cap : Nat) (s t : Nm) (w : World) (hC : ClassesAt w a cap l ps) (hF : FormsAt w) (hB : ClsOk l) (hs : s.length ≤ 8388608) (ht : t.length ≤ 8388608) :
    Calls Tryz.prog 35 #[.slice a l.length cap, .string ⟨⟨s⟩⟩, .string ⟨⟨t⟩⟩] w (Read2Res (read2Err l s t) l ps w) := by
  have HR := Lib.hid (read_w l ps a cap w hC hF hB)
  clear hC hF hB
  go_enter Tryz.func35, Tryz.ntmps35
  go_wp2_with fail
  refine HR.out.mono ?_
  rintro e w2 ⟨hb2, ⟨hne, rfl⟩ | ⟨h0, b, rfl, hw⟩⟩
  · have HB2 := Lib.hid hb2
    have HE := Lib.hid (show read2Err l s t = readErr l by unfold read2Err; rw [if_pos hne])
    have HNE := Lib.hid hne
    clear hb2
    generalize read2Err l s t = q at *
    generalize readErr l = m at *
    clear hne
    go_wp2_with fail
    go_ret2
    exact ⟨HB2.out, Or.inl ⟨by rw [HE.out]; exact HNE.out, by rw [HE.out]; rfl⟩⟩
  · have HB2 := Lib.hid hb2
    have HE := Lib.hid (show read2Err l s t = kinds2 (kindErr (wl l) s) (kindErr (wl l) t) by unfold read2Err; rw [if_neg (by simp [h0])])
    have HW := Lib.hid hw
    have HK := Lib.hid (fun s (hs : s.length ≤ 8388608) W (hb : Below w2.heap.size w2 W) => kind_calls l (wcp l ps) b s W (hw.below hb) hs)
    have hv1 := kind_vals (wl l) s
    have hv2 := kind_vals (wl l) t
    clear hb2 hw h0
    generalize read2Err l s t = q at *
    go_wp2_with fail
    refine (HK.out s hs _ (Below.refl _ _)).mono ?_
    rintro e w3 ⟨rfl, hb3⟩
    have HB3 := Lib.hid hb3
    clear hb3
    go_wp2_with fail
    refine (HK.out t ht _ HB3.out).mono ?_
    rintro e w4 ⟨rfl, hb4⟩
    have HB4 := Lib.hid (bl_trans HB3.out hb4)
    have HB5 := Lib.hid (bl_trans HB2.out HB4.out)
    clear hb4 HK
    generalize kindErr (wl l) s = x at *
    generalize kindErr (wl l) t = y at *
    have E0 : errOf 0 = .nilIface := rfl
    have E1 : errOf 1 = errV 1 := rfl
    have E3 : errOf 3 = errV 3 := rfl
    rcases hv1 with rfl | rfl | rfl <;> rcases hv2 with rfl | rfl | rfl <;> simp only [E0, E1, E3] <;> clear E0 E1 E3
    · go_wp2_with fail
      go_ret2
      exact ⟨HB5.out, Or.inr ⟨by rw [HE.out]; rfl, b, rfl, HW.out.below HB4.out⟩⟩
    all_goals
      go_wp2_with fail
      go_ret2
      exact ⟨HB5.out, Or.inl ⟨by rw [HE.out]; decide, by rw [HE.out]; rfl⟩⟩
end Go.Proofs.YtpkhfcbkadkadaaGreatDoor
