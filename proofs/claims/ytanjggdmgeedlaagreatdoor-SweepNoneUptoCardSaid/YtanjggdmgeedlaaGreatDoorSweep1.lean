/-
  The walk of sweep.read: at roots that are the first places of a heap.
-/
import Derived.Test.YtanjggdmgeedlaaGreatDoorPSweep
namespace Go.Proofs.YtanjggdmgeedlaaGreatDoor
set_option linter.unusedVariables false
set_option linter.unusedSimpArgs false
open Go.RowKit Go.Shelf Go.Lib Go.Sort

set_option maxRecDepth 100000 in
set_option maxHeartbeats 4000000 in
theorem sread_calls (l : List ClassR) (cs : List CAddr) (a0 : Option Addr) (c0 : Nat) (X : List ThingR) (ps : List HA) (a : Option Addr) (cap : Nat) (n : Nat) (p : HA) (w : World) (hC : ClassesAt w a0 c0 l cs) (hF : FormsAt w) (hB : ClsOk l) (hT : ThingsAt w a cap X ps) (hH : HpB X) (hR : HasAt w (rootsN n) p) (hn : n ≤ X.length) :
    Calls Tryz.prog 32 #[.slice a0 l.length c0, .agg #[.slice a X.length cap], .slice p.1 n p.2] w fun e w' => e = .returned (errOf (hpErr l X)) ∧ Below w.heap.size w w' := by
  obtain ⟨w1, hw1⟩ : ∃ w1, w1 = w.alloc (.cells #[.slice a X.length cap] 25) := ⟨_, rfl⟩
  have HX := Lib.hid (show Blk w1 w.heap.size 25 #[.slice a X.length cap] by rw [hw1]; exact blk_new _ _ _ _ rfl)
  have hb1 : Below w.heap.size w w1 := by rw [hw1]; exact bl_alloc (Below.refl _ _) _
  have HB1 := Lib.hid hb1
  have HC := Lib.hid (fun W (hw : Below w.heap.size w W) => hcheck_calls l cs a0 c0 X ps a cap W (hC.below hw) (hF.below hw) hB (hT.below hw) hH)
  have HRD := Lib.hid (fun W (hw : Below w.heap.size w W) => read_w l cs a0 c0 W (hC.below hw) (hF.below hw) hB)
  have HDO := Lib.hid (fun (hr : rightErr (wl l) X = 0) b v k W (hw : Below w.heap.size w W) (hW : WOk W b l (wcp l cs)) (hk : DT k) => hdoes_calls l (wcp l cs) b X ps a cap v k W hW (hT.below hw) (right_zero.1 hr).2.1 hk (right_zero.1 hr).1)
  have HR := Lib.hid hR
  have HN := Lib.hid hn
  have HTH := Lib.hid (fun w => thing_calls objN (by decide) w)
  clear hC hF hB hT hH hR hb1 hn
  go_enter Tryz.func32, Tryz.ntmps32
  go_wp2_with fail
  rw [← hw1]
  clear hw1
  have e0 := HX.out.cell 0
  have e1 := HX.out.lt
  go_wp2_with fail
  refine (HC.out _ HB1.out).mono ?_
  rintro e w2 ⟨rfl, hb2⟩
  have HB2 := Lib.hid (bl_trans HB1.out hb2)
  by_cases hz : hpErr l X = 0
  · obtain ⟨hg, hr⟩ := hp_zero.1 hz
    have HZ := Lib.hid hz
    rw [hz, errOf_zero]
    have hX2 := HX.out.below hb2
    have HX2 := Lib.hid hX2
    clear hz hb2 e0 e1
    go_wp2_with fail
    refine (HRD.out _ HB2.out).mono ?_
    rintro e w3 ⟨hb3, ⟨hz, _⟩ | ⟨_, b, rfl, hW⟩⟩
    · exact absurd (good_read hg) hz
    have HG := Lib.hid hg
    have HRT := Lib.hid hr
    have HB3 := Lib.hid (bl_trans HB2.out hb3)
    have HX3 := Lib.hid (HX2.out.below hb3)
    have HW := Lib.hid hW
    have h50 := (right_zero.1 hr).1
    have hn50 : n ≤ 50 := by have := HN.out; omega
    have q1 : ¬ (50 : Int) < (n : Int) := by omega
    have q2 : decide ((50 : Int) < (n : Int)) = false := decide_eq_false q1
    have hobj : DT (Kd.ty 0 (.cls objN)).text := ⟨0, _, rfl, by omega, by decide⟩
    have hint : DT [73] := ⟨0, .int, rfl, by omega, by decide⟩
    have hlng : DT [74] := ⟨0, .long, rfl, by omega, by decide⟩
    have HD1 := Lib.hid (fun (v : ValR) (hv : v ∈ rootsN n) W (hw : Below w3.heap.size w3 W) => (by
      have h := HDO.out HRT.out b v [73] W (bl_trans HB3.out hw) (HW.out.below hw) hint
      rw [(root_no hv).1] at h
      exact h : HDoesAt b a X.length cap v [73] false W))
    have HD2 := Lib.hid (fun (v : ValR) (hv : v ∈ rootsN n) W (hw : Below w3.heap.size w3 W) => (by
      have h := HDO.out HRT.out b v [74] W (bl_trans HB3.out hw) (HW.out.below hw) hlng
      rw [(root_no hv).2] at h
      exact h : HDoesAt b a X.length cap v [74] false W))
    have HD3 := Lib.hid (fun (v : ValR) (hv : v ∈ rootsN n) W (hw : Below w3.heap.size w3 W) => (by
      have h := HDO.out HRT.out b v (thing objN) W (bl_trans HB3.out hw) (HW.out.below hw) hobj
      rw [show thing objN = (Kd.ty 0 (.cls objN)).text from rfl, root_val HG.out HRT.out HN.out hv] at h
      exact h : HDoesAt b a X.length cap v (thing objN) true W))
    clear hb3 hW hg hr h50 hobj hint hlng HDO HC HRD
    go_wp2_with fail
    go_loopw [32] (fun i wr => ∃ j : Nat, j ≤ n ∧ i = .int .i64 j ∧ Below w3.heap.size w3 wr) (fun i _ => n - (RowKit.intOf i).toNat)
    case atStart => exact ⟨0, by omega, rfl, Below.refl _ _⟩
    case round =>
      obtain ⟨j, hj, rfl, hbr⟩ := hrel
      have HBR := Lib.hid hbr
      by_cases hlj : j < n
      · have hji : (j : Int) < (n : Int) := by omega
        have hj0 : (0 : Int) ≤ (j : Int) := Int.natCast_nonneg _
        obtain ⟨b5, off5, hp5, hlt5, f0, f1⟩ := ((HR.out.below HB3.out).below hbr).cells (roots_at hlj)
        rw [hp5]
        have hmem : (⟨3, (j : Int) + 1⟩ : ValR) ∈ rootsN n := List.mem_of_getElem? (roots_at hlj)
        obtain ⟨w4, hw4⟩ : ∃ w4, w4 = wr.alloc (.cells #[.int .i64 3, .int .i64 ((j : Int) + 1)] 37) := ⟨_, rfl⟩
        have HB4 := Lib.hid (show Below w3.heap.size w3 w4 by rw [hw4]; exact bl_alloc hbr _)
        have HV4 := Lib.hid (show Blk w4 wr.heap.size 37 #[.int .i64 3, .int .i64 ((j : Int) + 1)] by rw [hw4]; exact blk_new _ _ _ _ rfl)
        have HX4 := Lib.hid (show Blk w4 w.heap.size 25 #[.slice a X.length cap] from HX3.out.below HB4.out)
        have HM := Lib.hid hmem
        have G1 := Lib.hid (show ∀ W, Below w4.heap.size w4 W → Calls Tryz.prog 31 #[.map (some b), .agg #[.slice a X.length cap], .agg #[.int .i64 3, .int .i64 ((j : Int) + 1)], .string ⟨#[73]⟩] W fun e w' => e = .returned (.bool false) ∧ Below W.heap.size W w' from fun W hw => HD1.out _ hmem W (bl_trans HB4.out hw))
        have G2 := Lib.hid (show ∀ W, Below w4.heap.size w4 W → Calls Tryz.prog 31 #[.map (some b), .agg #[.slice a X.length cap], .agg #[.int .i64 3, .int .i64 ((j : Int) + 1)], .string ⟨#[74]⟩] W fun e w' => e = .returned (.bool false) ∧ Below W.heap.size W w' from fun W hw => HD2.out _ hmem W (bl_trans HB4.out hw))
        have G3 := Lib.hid (show ∀ W, Below w4.heap.size w4 W → Calls Tryz.prog 31 #[.map (some b), .agg #[.slice a X.length cap], .agg #[.int .i64 3, .int .i64 ((j : Int) + 1)], .string ⟨#[76, 79, 98, 106, 101, 99, 116, 59]⟩] W fun e w' => e = .returned (.bool true) ∧ Below W.heap.size W w' from fun W hw => HD3.out _ hmem W (bl_trans HB4.out hw))
        have G4 := Lib.hid (show ∀ W, Calls Tryz.prog 64 #[.string ⟨#[79, 98, 106, 101, 99, 116]⟩] W fun e w' => e = .returned (.string ⟨#[76, 79, 98, 106, 101, 99, 116, 59]⟩) ∧ Below W.heap.size W w' from fun W => (HTH.out W).mono fun e w' h => ⟨h.1, by rw [← h.2]; exact Below.refl _ _⟩)
        have HG4 := Lib.hid (fun (d : Nat) (os : Array Obj) => below_regrown w4 d os)
        have g0 := fun (d : Nat) (os : Array Obj) => (show (grow (redrawn w4 d) os).cell? ⟨w.heap.size, 0, none⟩ = some (.slice a X.length cap) from (HX4.out.below (HG4.out d os)).cell 0)
        have g1 := fun (d : Nat) (os : Array Obj) => (show (grow (redrawn w4 d) os).cell? ⟨wr.heap.size, 0, none⟩ = some (.int .i64 3) from (HV4.out.below (HG4.out d os)).cell 0)
        have g2 := fun (d : Nat) (os : Array Obj) => (show (grow (redrawn w4 d) os).cell? ⟨wr.heap.size, 1, none⟩ = some (.int .i64 ((j : Int) + 1)) from (HV4.out.below (HG4.out d os)).cell 1)
        clear hbr hmem HD1 HD2 HD3 HTH HM
        go_upto_region 12 with fail
        rw [← hw4]
        clear hw4 f0 f1
        refine wp_region_quiet_below (by kernel_rfl) (by kernel_rfl) ?_
        repeat (first | go_big_quiet_step (first | with_reducible exact Calls.regrown_of (G1.out _ (HG4.out _ _)) | with_reducible exact Calls.regrown_of (G2.out _ (HG4.out _ _)) | with_reducible exact Calls.regrown_of (G3.out _ (HG4.out _ _)) | with_reducible exact Calls.regrown_of (G4.out _)) | quiet_step (first | with_reducible exact Calls.regrown_of (G1.out _ (HG4.out _ _)) | with_reducible exact Calls.regrown_of (G2.out _ (HG4.out _ _)) | with_reducible exact Calls.regrown_of (G3.out _ (HG4.out _ _)) | with_reducible exact Calls.regrown_of (G4.out _)))
        refine wpQuiet_nil ?_
        intro _ hw'
        obtain ⟨⟨dq, osq⟩, hw''⟩ := hw'
        subst hw''
        have HB5 := Lib.hid (bl_trans HB4.out (HG4.out dq osq))
        clear g0 g1 g2
        go_wp2_with fail
        go_roundw
        case rel => exact ⟨j + 1, by omega, by go_num, HB5.out⟩
        case measure => simp [RowKit.intOf]; omega
      · obtain rfl : j = n := by omega
        have HB5 := Lib.hid (bl_trans HB3.out HBR.out)
        clear hbr
        go_wp2_with fail
        go_ret
        exact ⟨by rw [HZ.out]; rfl, HB5.out⟩
  · rw [errOf_ne hz]
    have HE := Lib.hid (errOf_ne hz)
    obtain ⟨z, hze⟩ : ∃ z, z = hpErr l X := ⟨_, rfl⟩
    rw [← hze] at HE ⊢
    have HZE := Lib.hid hze
    clear hz hb2 e0 e1 hze
    go_wp2_with fail
    go_ret
    exact ⟨by rw [← HZE.out, HE.out]; rfl, HB2.out⟩
end Go.Proofs.YtanjggdmgeedlaaGreatDoor
