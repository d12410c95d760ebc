/-
  The walk of heap.formed: exact.
-/
import Derived.Test.YtanjggdmgeedlaaGreatDoorHeap2
import Derived.Test.YtanjggdmgeedlaaGreatDoorBlk
import Derived.Lib.QuietBelow
import Derived.Deep.RegionHeld3
import Derived.Deep.DeepCutAuto
import Derived.BigQuiet
import Derived.Deep.QuietTactic
namespace Go.Proofs.YtanjggdmgeedlaaGreatDoor
set_option linter.unusedVariables false
set_option linter.unusedSimpArgs false
open Go.RowKit Go.Shelf Go.Lib

theorem cur_face {L : List CP} (n : Nm) : (curP L n).1.face = (look (CL L) n).elim false (·.face) := by
  rw [cur_is]
  cases look (CL L) n <;> rfl

def FormedAt (b : Nat) (x : ThingR) (p : HA) (z : Int) (w : World) : Prop := Calls Tryz.prog 103 #[.map (some b), .agg #[.string ⟨⟨x.ty⟩⟩, .slice p.1 x.has.length p.2]] w fun e w' => e = .returned (errOf z) ∧ Below w.heap.size w w'
def BoxT (w : World) (g : Nat) (x : ThingR) (p : HA) : Prop := Blk w g 33 #[.string ⟨⟨x.ty⟩⟩, .slice p.1 x.has.length p.2]
theorem BoxT.below {w w' : World} {g : Nat} {x : ThingR} {p : HA} (H : BoxT w g x p) (hb : Below w.heap.size w w') : BoxT w' g x p := Blk.below H hb
theorem BoxT.cells {w : World} {g : Nat} {x : ThingR} {p : HA} (H : BoxT w g x p) : w.cell? ⟨g, 0, none⟩ = some (.string ⟨⟨x.ty⟩⟩) ∧ w.cell? ⟨g, 1, none⟩ = some (.slice p.1 x.has.length p.2) := ⟨Blk.cell H 0, Blk.cell H 1⟩

set_option maxRecDepth 100000 in
set_option maxHeartbeats 2000000 in
theorem formed_bad (b : Nat) (x : ThingR) (p : HA) (w : World) (hb : x.ty.length ≤ 8388608) (h : ¬ TypeOk x.ty) : FormedAt b x p 1 w := by
  have HC := Lib.hid (fun w => check_bad x.ty h (by omega) w)
  have HX := Lib.hid (show BoxT (w.alloc (.cells #[.string ⟨⟨x.ty⟩⟩, .slice p.1 x.has.length p.2] 33)) w.heap.size x p from blk_new _ _ _ _ rfl)
  have HB1 := Lib.hid (fun o => bl_alloc (Below.refl w.heap.size w) o)
  unfold FormedAt
  go_enter Tryz.func103, Tryz.ntmps103
  go_wp2_with fail
  refine (HC.out _).mono ?_
  rintro e w1 ⟨rfl, hb1⟩
  have HB2 := Lib.hid (bl_trans (HB1.out _) hb1)
  clear hb1
  go_wp2_with fail
  go_ret
  exact ⟨rfl, HB2.out⟩

set_option maxRecDepth 100000 in
set_option maxHeartbeats 2000000 in
theorem formed_num (b : Nat) (x : ThingR) (p : HA) (w : World) (h : TypeOk x.ty) (hn : numB x.ty = true) : FormedAt b x p 1 w := by
  have HC := Lib.hid (fun w => check_ok x.ty h w)
  have HN := Lib.hid (fun w => number_calls x.ty w)
  rw [hn] at HN
  have HX := Lib.hid (show BoxT (w.alloc (.cells #[.string ⟨⟨x.ty⟩⟩, .slice p.1 x.has.length p.2] 33)) w.heap.size x p from blk_new _ _ _ _ rfl)
  have HB1 := Lib.hid (fun o => bl_alloc (Below.refl w.heap.size w) o)
  clear h hn
  unfold FormedAt
  go_enter Tryz.func103, Tryz.ntmps103
  go_wp2_with fail
  refine (HC.out _).mono ?_
  rintro e w1 ⟨rfl, hb1⟩
  have HB2 := Lib.hid (bl_trans (HB1.out _) hb1)
  obtain ⟨e0, e1⟩ := (HX.out.below hb1).cells
  clear hb1
  go_wp2_with fail
  refine (HN.out _).mono ?_
  rintro e w1 ⟨rfl, rfl⟩
  go_wp2_with fail
  go_ret
  exact ⟨rfl, HB2.out⟩

set_option maxRecDepth 100000 in
set_option maxHeartbeats 2000000 in
theorem formed_none (l : List ClassR) (L : List CP) (b : Nat) (x : ThingR) (p : HA) (w : World) (hW : WOk w b l L) (h : TypeOk x.ty) (hn : numB x.ty = false) (hz : kindErr (wl l) x.ty ≠ 0) : FormedAt b x p (kindErr (wl l) x.ty) w := by
  have HC := Lib.hid (fun w => check_ok x.ty h w)
  have HN := Lib.hid (fun w => number_calls x.ty w)
  rw [hn] at HN
  have HX := Lib.hid (show BoxT (w.alloc (.cells #[.string ⟨⟨x.ty⟩⟩, .slice p.1 x.has.length p.2] 33)) w.heap.size x p from blk_new _ _ _ _ rfl)
  have HB1 := Lib.hid (fun o => bl_alloc (Below.refl w.heap.size w) o)
  have HK := Lib.hid (fun w' (hw : Below w.heap.size w w') => kind_calls l L b x.ty w' (hW.below hw) (by have := dt_len (dt_ok h); omega))
  rw [errOf_ne hz] at HK
  unfold FormedAt
  rw [errOf_ne hz]
  generalize kindErr (wl l) x.ty = z at *
  clear h hn hW hz
  go_enter Tryz.func103, Tryz.ntmps103
  go_wp2_with fail
  refine (HC.out _).mono ?_
  rintro e w1 ⟨rfl, hb1⟩
  have HB2 := Lib.hid (bl_trans (HB1.out _) hb1)
  obtain ⟨e0, e1⟩ := (HX.out.below hb1).cells
  clear hb1
  go_wp2_with fail
  refine (HN.out _).mono ?_
  rintro e w1 ⟨rfl, rfl⟩
  go_wp2_with fail
  refine (HK.out _ HB2.out).mono ?_
  rintro e w3 ⟨rfl, hb3⟩
  have HB3 := Lib.hid (bl_trans HB2.out hb3)
  clear hb3
  go_wp2_with fail
  go_ret
  exact ⟨rfl, HB3.out⟩

set_option maxRecDepth 100000 in
set_option maxHeartbeats 4000000 in
theorem formed_face (l : List ClassR) (L : List CP) (b : Nat) (x : ThingR) (p : HA) (n : Nm) (w : World) (hW : WOk w b l L) (h : TypeOk x.ty) (hn : numB x.ty = false) (hz : kindErr (wl l) x.ty = 0) (hL : TyL (wl l) x n) (hf : (look (wl l) n).elim false (·.face) = true) : FormedAt b x p 7 w := by
  have HC := Lib.hid (fun w => check_ok x.ty h w)
  have HN := Lib.hid (fun w => number_calls x.ty w)
  rw [hn] at HN
  have HX := Lib.hid (show BoxT (w.alloc (.cells #[.string ⟨⟨x.ty⟩⟩, .slice p.1 x.has.length p.2] 33)) w.heap.size x p from blk_new _ _ _ _ rfl)
  have HB1 := Lib.hid (fun o => bl_alloc (Below.refl w.heap.size w) o)
  have HK := Lib.hid (fun w' (hw : Below w.heap.size w w') => kind_calls l L b x.ty w' (hW.below hw) (by have := dt_len (dt_ok h); omega))
  rw [hz, errOf_zero] at HK
  have hnl := (name_len hL.2.1).2
  have HCL := Lib.hid (fun w => show Calls Tryz.prog 56 #[.string ⟨⟨thing n⟩⟩] w (fun e w' => e = .returned (.string ⟨⟨n⟩⟩) ∧ w = w') from class_calls 0 (.cls n) (by show n.length ≤ _; omega) w)
  have HLK := Lib.hid (fun w' (hw : Below w.heap.size w w') => cur_look (n := n) (hW.below hw).at_ (by unfold maxLen; omega))
  have hcf : (curP L n).1.face = true := by rw [cur_face, hW.cl]; exact hf
  unfold FormedAt
  have hfc := class_face (curP L n).1 (curP L n).2
  rw [hcf] at hfc
  have hty := hL.1
  clear h hn hW hz hL hf hcf
  rw [hty] at HC HN HK ⊢
  unfold BoxT at HX
  rw [hty] at HX
  clear hty
  unfold thing at *
  generalize n ++ [59] = r at *
  go_enter Tryz.func103, Tryz.ntmps103
  go_wp2_with fail
  refine (HC.out _).mono ?_
  rintro e w1 ⟨rfl, hb1⟩
  have HB2 := Lib.hid (bl_trans (HB1.out _) hb1)
  have e0 := (HX.out.below hb1).cell 0
  have e1 := (HX.out.below hb1).cell 1
  have HX1 := Lib.hid (HX.out.below hb1)
  clear hb1
  go_wp2_with fail
  refine (HN.out _).mono ?_
  rintro e w1 ⟨rfl, rfl⟩
  go_wp2_with fail
  refine (HK.out _ HB2.out).mono ?_
  rintro e w3 ⟨rfl, hb3⟩
  have HB3 := Lib.hid (bl_trans HB2.out hb3)
  have f0 := (HX1.out.below hb3).cell 0
  have f1 := (HX1.out.below hb3).cell 1
  have hlk := HLK.out _ HB3.out
  clear hb3
  go_wp2_with fail
  refine (HCL.out _).mono ?_
  rintro e w4 ⟨rfl, rfl⟩
  go_wp2_with fail
  go_ret
  exact ⟨rfl, HB3.out⟩

set_option maxRecDepth 100000 in
set_option maxHeartbeats 8000000 in
theorem formed_L (l : List ClassR) (L : List CP) (b : Nat) (x : ThingR) (p : HA) (n : Nm) (q : Bool) (w : World) (hW : WOk w b l L) (h : TypeOk x.ty) (hn : numB x.ty = false) (hz : kindErr (wl l) x.ty = 0) (hL : TyL (wl l) x n) (hf : (look (wl l) n).elim false (·.face) = false) (hq : ((typesH (wl l) x).length != x.has.length) = q) (hlen : (typesH (wl l) x).length ≤ 1000) (hhl : x.has.length ≤ 8388608) :
    FormedAt b x p (if q = true then 8 else 0) w := by
  have HC := Lib.hid (fun w => check_ok x.ty h w)
  have HN := Lib.hid (fun w => number_calls x.ty w)
  rw [hn] at HN
  have HX := Lib.hid (show BoxT (w.alloc (.cells #[.string ⟨⟨x.ty⟩⟩, .slice p.1 x.has.length p.2] 33)) w.heap.size x p from blk_new _ _ _ _ rfl)
  have HB1 := Lib.hid (fun o => bl_alloc (Below.refl w.heap.size w) o)
  have HK := Lib.hid (fun w' (hw : Below w.heap.size w w') => kind_calls l L b x.ty w' (hW.below hw) (by have := dt_len (dt_ok h); omega))
  rw [hz, errOf_zero] at HK
  have HT := Lib.hid (fun w' (hw : Below w.heap.size w w') => htypes_calls l L b x p w' (hW.below hw) (Or.inl ⟨n, hL⟩))
  have hnl := (name_len hL.2.1).2
  have HCL := Lib.hid (fun w => show Calls Tryz.prog 56 #[.string ⟨⟨thing n⟩⟩] w (fun e w' => e = .returned (.string ⟨⟨n⟩⟩) ∧ w = w') from class_calls 0 (.cls n) (by show n.length ≤ _; omega) w)
  have HLK := Lib.hid (fun w' (hw : Below w.heap.size w w') => cur_look (n := n) (hW.below hw).at_ (by unfold maxLen; omega))
  have hcf : (curP L n).1.face = false := by rw [cur_face, hW.cl]; exact hf
  unfold FormedAt
  have hfc := class_face (curP L n).1 (curP L n).2
  rw [hcf] at hfc
  have hty := hL.1
  clear h hn hW hz hL hf hcf
  unfold BoxT at HX
  rw [hty] at HC HN HK HX HT ⊢
  generalize typesH (wl l) x = T at *
  clear hty
  unfold thing at *
  generalize n ++ [59] = r at *
  generalize x.has.length = m at *
  go_enter Tryz.func103, Tryz.ntmps103
  go_wp2_with fail
  refine (HC.out _).mono ?_
  rintro e w1 ⟨rfl, hb1⟩
  have HB2 := Lib.hid (bl_trans (HB1.out _) hb1)
  have e0 := (HX.out.below hb1).cell 0
  have e1 := (HX.out.below hb1).cell 1
  have HX1 := Lib.hid (HX.out.below hb1)
  clear hb1
  go_wp2_with fail
  refine (HN.out _).mono ?_
  rintro e w1 ⟨rfl, rfl⟩
  go_wp2_with fail
  refine (HK.out _ HB2.out).mono ?_
  rintro e w3 ⟨rfl, hb3⟩
  have HB3 := Lib.hid (bl_trans HB2.out hb3)
  have HX3 := Lib.hid (HX1.out.below hb3)
  have f0 := HX3.out.cell 0
  have f1 := HX3.out.cell 1
  have hlk := HLK.out _ HB3.out
  clear hb3
  go_wp2_with fail
  refine (HCL.out _).mono ?_
  rintro e w4 ⟨rfl, rfl⟩
  clear e0 e1 HX HX1 HK HN HC HCL HLK
  go_upto_region 8 with fail
  have HS1 := Lib.hid (fun W' (hb : Below w3.heap.size w3 W') => (show W'.cell? ⟨w.heap.size, 0, none⟩ = some (.string ⟨⟨76 :: r⟩⟩) ∧ W'.cell? ⟨w.heap.size, 1, none⟩ = some (.slice p.1 m p.2) from ⟨(HX3.out.below hb).cell 0, (HX3.out.below hb).cell 1⟩))
  have hb0 := Below.refl w3.heap.size w3
  clear f0 f1 HX3
  go_cut [55] (fun s55 wx => s55 = .bool q ∧ Below w3.heap.size w3 wx)
  case first =>
    obtain ⟨f0, f1⟩ := HS1.out _ hb0
    cases q with
    | true =>
      have q1 : ((T.length : Int) != (m : Int)) = true := by simp at hq ⊢; omega
      have q2 : (T.length == m) = false := by simp at hq ⊢; exact hq
      have q3 : ((T.length : Int) == (m : Int)) = false := by simp at hq ⊢; omega
      first
        | (go_region_with (go_at_call 57; refine (HT.out _ (Below.drew HB3.out)).mono ?_; rintro e w5 ⟨hb2c, a5, c5, rfl, hr5⟩; have hb2 : Below w3.heap.size w3 w5 := (Below.drew hb0).trans hb2c; obtain ⟨g0, g1⟩ := HS1.out _ hb2))
        | fail
      all_goals
        go_wp2_with fail
        go_meet
        exact ⟨rfl, hb2⟩
    | false =>
      obtain rfl : T.length = m := by simpa using hq
      first
        | (go_region_with (go_at_call 57; refine (HT.out _ (Below.drew HB3.out)).mono ?_; rintro e w5 ⟨hb2c, a5, c5, rfl, hr5⟩; have hb2 : Below w3.heap.size w3 w5 := (Below.drew hb0).trans hb2c; obtain ⟨g0, g1⟩ := HS1.out _ hb2))
        | fail
      all_goals
        go_wp2_with fail
        go_meet
        exact ⟨by simp, hb2⟩
  case rest =>
    obtain ⟨rfl, hb2⟩ := hcut
    have HB4 := Lib.hid (bl_trans HB3.out hb2)
    clear hb2
    cases q with
    | true =>
      go_wp2_with fail
      go_ret
      exact ⟨rfl, HB4.out⟩
    | false =>
      go_wp2_with fail
      go_ret
      exact ⟨rfl, HB4.out⟩
end Go.Proofs.YtanjggdmgeedlaaGreatDoor
