/-
  SweepNone: the walk of the law.
-/
import Derived.Test.YtanjggdmgeedlaaGreatDoorSweep5
import Derived.Test.YtanjggdmgeedlaaGreatDoorSweep6
import Derived.Test.YtanjggdmgeedlaaGreatDoorFrame
namespace Go.Proofs.YtanjggdmgeedlaaGreatDoor
set_option linter.unusedVariables false
set_option linter.unusedSimpArgs false
open Go.RowKit Go.Shelf Go.Lib Go.Sort

set_option maxRecDepth 100000 in
set_option maxHeartbeats 8000000 in
theorem sweepNone_go (l : List ClassR) (cs : List CAddr) (a0 : Option Addr) (c0 : Nat) (X : List ThingR) (ps : List HA) (a : Option Addr) (cap : Nat) (w : World) (hC : ClassesAt w a0 c0 l cs) (hF : FormsAt w) (hB : ClsOk l) (hT : ThingsAt w a cap X ps) (hH : HpB X) :
    Calls Tryz.prog 4 #[.slice a0 l.length c0, .agg #[.slice a X.length cap]] w fun e w' => e = .returned (.bool true) ∧ Below w.heap.size w w' := by
  obtain ⟨w1, hw1⟩ : ∃ w1, w1 = w.alloc (.cells #[.slice a X.length cap] 25) := ⟨_, rfl⟩
  have HX := Lib.hid (show Blk w1 w.heap.size 25 #[.slice a X.length cap] by rw [hw1]; exact blk_new _ _ _ _ rfl)
  have HB1 := Lib.hid (show Below w.heap.size w w1 by rw [hw1]; exact bl_alloc (Below.refl _ _) _)
  have HS0 := Lib.hid (show ∀ W, Below w.heap.size w W → Calls Tryz.prog 12 #[.slice a0 l.length c0, .agg #[.slice a X.length cap], .slice none 0 0] W (SwRes l X false W) from fun W hw => sweep_calls l cs a0 c0 X ps a cap false (none, 0) W (hC.below hw) (hF.below hw) hB (hT.below hw) hH ⟨Nat.le_refl _, Or.inl rfl⟩)
  have HS1 := Lib.hid (fun (p : HA) W (hw : Below w.heap.size w W) (hR : HasAt W (rootsN X.length) p) => show Calls Tryz.prog 12 #[.slice a0 l.length c0, .agg #[.slice a X.length cap], .slice p.1 X.length p.2] W (SwRes l X true W) from by
    have h := sweep_calls l cs a0 c0 X ps a cap true p W (hC.below hw) (hF.below hw) hB (hT.below hw) hH hR
    rw [show (rootsOf true X.length).length = X.length from roots_len _] at h
    exact h)
  have hX := hH.1
  have HT := Lib.hid hT
  have HHP := Lib.hid hH
  clear hC hF hB hT hH
  go_enter Tryz.func4, Tryz.ntmps4
  go_wp2_with fail
  rw [← hw1]
  clear hw1
  refine (named_true _).mono ?_
  rintro e w2 ⟨rfl, hb2⟩
  have HB2 := Lib.hid (bl_trans HB1.out hb2)
  have HX2 := Lib.hid (HX.out.below hb2)
  have e0 := HX2.out.cell 0
  have e1 := HX2.out.lt
  clear hb2 HX
  go_wp2_with fail
  refine (HS0.out _ HB2.out).mono ?_
  have hroots : ∀ (wr : World) (B : Nat) (A : Option Addr) (C : Nat), wr.ownsRow B 37 2 (.slice A X.length C) X.length (valsL (rootsN X.length)) → HasAt wr (rootsN X.length) (A, C) := fun wr B A C h => by
    have : OwnV wr B (rootsN X.length) (A, C) := by unfold OwnV; rw [roots_len]; exact h
    exact this.at
  have HRT := Lib.hid hroots
  clear hroots
  have HVS := Lib.hid (fun (j : Nat) => show valsL (rootsN (j + 1)) = valsL (rootsN j) ++ [.int .i64 3, .int .i64 ((j : Int) + 1)] from by rw [roots_snoc, valsL_snoc]; rfl)
  rintro e w3 ⟨hb3, ⟨hz, rfl⟩ | ⟨hz, v, qs, q, rfl, hot, _⟩⟩
  · have HZ := Lib.hid hz
    obtain ⟨z, hze⟩ : ∃ z, z = hpErr l X := ⟨_, rfl⟩
    rw [← hze]
    have HZE := Lib.hid hze
    obtain ⟨w4, hw4⟩ : ∃ w4, w4 = w3.alloc (.cells #[.slice none 0 0] 25) := ⟨_, rfl⟩
    have hb4 : Below w3.heap.size w3 w4 := by rw [hw4]; exact bl_alloc (Below.refl _ _) _
    have HB4 := Lib.hid (bl_trans HB2.out (bl_trans hb3 hb4))
    have HX4 := Lib.hid (HX2.out.below (bl_trans hb3 hb4))
    clear hz hze hb3 hb4 e0 e1 HS0
    go_upto_region 5 with fail
    rw [← hw4]
    clear hw4
    go_wp2_with fail
    go_loopw [9, 10] (fun v i wr => ∃ (j : Nat) (A : Option Addr) (C : Nat), j ≤ X.length ∧ i = .int .i64 j ∧ v = .slice A j C ∧ wr.ownsRow w4.heap.size 37 2 (.slice A j C) j (valsL (rootsN j)) ∧ Below w4.heap.size w4 wr) (fun _ i _ => X.length - (RowKit.intOf i).toNat)
    case atStart => exact ⟨0, none, 0, by omega, rfl, rfl, ⟨rfl, Or.inl ⟨rfl, rfl⟩⟩, Below.refl _ _⟩
    case round =>
      obtain ⟨j, A, C, hj, rfl, rfl, ho, hbr⟩ := hrel
      have HBR := Lib.hid hbr
      have x0 := (HX4.out.below hbr).cell 0
      have x1 := (HX4.out.below hbr).lt
      have hsz := hbr.size
      by_cases hlj : j < X.length
      · have hji : (j : Int) < (X.length : Int) := by omega
        have hj0 : (0 : Int) ≤ (j : Int) := Int.natCast_nonneg _
        have hwr : IntKind.i64.wrap ((j : Int) + 1) = (j : Int) + 1 := by rw [IntKind.wrap_i64]; omega
        have HO := Lib.hid ho
        clear ho hbr
        go_wp2_with (at_builtin; refine wpList_append_one rowVal rfl _ _ rfl w4.heap.size _ j (valsL (rootsN j)) rfl ?c0 [.int .i64 3, .int .i64 ((j : Int) + 1)] rfl ?c1 _ rfl ?cg ?c2 ?c3 ?c4 ?_)
        case c0 => exact HO.out
        case c1 => exact fun u hu => vCells_one ⟨3, (j : Int) + 1⟩ u hu
        case cg => simp
        case c2 => omega
        case c3 => omega
        case c4 => exact hsz
        intro v5 w5 ho5 hg5
        have hb5 := Lib.hid (HBR.out.trans (grown_below hsz HO.out hg5))
        rw [← HVS.out] at ho5
        obtain ⟨A5, C5, rfl, _⟩ := slice_of_own ho5
        have HO5 := Lib.hid ho5
        clear ho5 hg5
        go_wp2_with fail
        go_roundw
        case rel => exact ⟨j + 1, A5, C5, by omega, by go_num, rfl, HO5.out, hb5.out⟩
        case measure => simp [RowKit.intOf]; omega
      · obtain rfl : j = X.length := by omega
        have HB5 := Lib.hid (bl_trans HB4.out hbr)
        have HSW := Lib.hid (HS1.out (A, C) wr HB5.out (HRT.out _ _ _ _ ho))
        clear ho hbr HS1
        go_wp2_with fail
        refine HSW.out.mono ?_
        rintro e w6 ⟨hb6, ⟨_, rfl⟩ | ⟨hz6, _⟩⟩
        case inr => exact absurd hz6 HZ.out
        rw [← HZE.out]
        have HB6 := Lib.hid (bl_trans HB5.out hb6)
        clear hb6 x0 x1
        go_wp2_with fail
        go_ret
        exact ⟨rfl, bl_alloc HB6.out _⟩
  · obtain ⟨hg, hr⟩ := hp_zero.1 hz
    have hX50 := (right_zero.1 hr).1
    have HHL := Lib.hid (show ∀ x ∈ X, x.has.length ≤ 1000000 from fun x hx => by have := has_len hg ((right_zero.1 hr).2.1 x hx); omega)
    have HZ := Lib.hid hz
    obtain ⟨A1, C1, rfl, _⟩ := slice_of_own hot.row
    rw [show (keptOf false X).length = 0 from rfl, show (rootsOf false X.length).length = 0 from rfl]
    obtain ⟨w4, hw4⟩ : ∃ w4, w4 = w3.alloc (.cells #[.slice A1 0 C1] 25) := ⟨_, rfl⟩
    have hb4 : Below w3.heap.size w3 w4 := by rw [hw4]; exact bl_alloc (Below.refl _ _) _
    have HB4 := Lib.hid (bl_trans HB2.out (bl_trans hb3 hb4))
    have HX4 := Lib.hid (HX2.out.below (bl_trans hb3 hb4))
    have HG4 := Lib.hid (show Blk w4 w3.heap.size 25 #[.slice A1 0 C1] by rw [hw4]; exact blk_new _ _ _ _ rfl)
    clear hz hg hr hb3 hb4 e0 e1 HS0 hot
    go_upto_region 5 with fail
    rw [← hw4]
    clear hw4
    go_wp2_with fail
    go_loopw [9, 10] (fun v i wr => ∃ (j : Nat) (A : Option Addr) (C : Nat), j ≤ X.length ∧ i = .int .i64 j ∧ v = .slice A j C ∧ wr.ownsRow w4.heap.size 37 2 (.slice A j C) j (valsL (rootsN j)) ∧ Below w4.heap.size w4 wr) (fun _ i _ => X.length - (RowKit.intOf i).toNat)
    case atStart => exact ⟨0, none, 0, by omega, rfl, rfl, ⟨rfl, Or.inl ⟨rfl, rfl⟩⟩, Below.refl _ _⟩
    case round =>
      obtain ⟨j, A, C, hj, rfl, rfl, ho, hbr⟩ := hrel
      have HBR := Lib.hid hbr
      have x0 := (HX4.out.below hbr).cell 0
      have x1 := (HX4.out.below hbr).lt
      have hsz := hbr.size
      by_cases hlj : j < X.length
      · have hji : (j : Int) < (X.length : Int) := by omega
        have hj0 : (0 : Int) ≤ (j : Int) := Int.natCast_nonneg _
        have hwr : IntKind.i64.wrap ((j : Int) + 1) = (j : Int) + 1 := by rw [IntKind.wrap_i64]; omega
        have HO := Lib.hid ho
        clear ho hbr
        go_wp2_with (at_builtin; refine wpList_append_one rowVal rfl _ _ rfl w4.heap.size _ j (valsL (rootsN j)) rfl ?c0 [.int .i64 3, .int .i64 ((j : Int) + 1)] rfl ?c1 _ rfl ?cg ?c2 ?c3 ?c4 ?_)
        case c0 => exact HO.out
        case c1 => exact fun u hu => vCells_one ⟨3, (j : Int) + 1⟩ u hu
        case cg => simp
        case c2 => omega
        case c3 => omega
        case c4 => exact hsz
        intro v5 w5 ho5 hg5
        have hb5 := Lib.hid (HBR.out.trans (grown_below hsz HO.out hg5))
        rw [← HVS.out] at ho5
        obtain ⟨A5, C5, rfl, _⟩ := slice_of_own ho5
        have HO5 := Lib.hid ho5
        clear ho5 hg5
        go_wp2_with fail
        go_roundw
        case rel => exact ⟨j + 1, A5, C5, by omega, by go_num, rfl, HO5.out, hb5.out⟩
        case measure => simp [RowKit.intOf]; omega
      · obtain rfl : j = X.length := by omega
        have HB5 := Lib.hid (bl_trans HB4.out hbr)
        have HRR := Lib.hid (HRT.out _ _ _ _ ho)
        have HSW := Lib.hid (HS1.out (A, C) wr HB5.out HRR.out)
        have HX5 := Lib.hid (HX4.out.below hbr)
        have HG5 := Lib.hid (HG4.out.below hbr)
        clear ho hbr HS1
        go_wp2_with fail
        refine HSW.out.mono ?_
        rintro e w6 ⟨hb6, ⟨hz6, _⟩ | ⟨_, v6, qs6, q6, rfl, hot6, hov6⟩⟩
        · exact absurd HZ.out hz6
        obtain ⟨A6, C6, rfl, hta6⟩ := hot6.at
        rw [show (rootsOf true X.length).length = X.length from roots_len _, show (keptOf true X).length = X.length from rfl]
        have hov7 := hov6.at
        obtain ⟨w7, hw7⟩ : ∃ w7, w7 = w6.alloc (.cells #[.slice A6 X.length C6] 25) := ⟨_, rfl⟩
        have hb7 : Below w6.heap.size w6 w7 := by rw [hw7]; exact bl_alloc (Below.refl _ _) _
        have HB7 := Lib.hid (bl_trans HB5.out (bl_trans hb6 hb7))
        have HX7 := Lib.hid (HX5.out.below (bl_trans hb6 hb7))
        have HG7 := Lib.hid (HG5.out.below (bl_trans hb6 hb7))
        have HK7 := Lib.hid (show Blk w7 w6.heap.size 25 #[.slice A6 X.length C6] by rw [hw7]; exact blk_new _ _ _ _ rfl)
        have HHS := Lib.hid (fun W (hw : Below w7.heap.size w7 W) => heap_same X qs6 ps A6 a C6 cap W ((hta6.below hb7).below hw) (HT.out.below (bl_trans HB7.out hw)) (by omega) HHL.out)
        have HVV := Lib.hid (fun W (hw : Below w7.heap.size w7 W) => show Calls Tryz.prog 14 #[.slice q6.1 X.length q6.2, .slice A X.length C] W _ from by
          have h := vals_same (rootsN X.length) q6.1 A q6.2 C W ((hov7.below hb7).below hw) ((HRR.out.below (bl_trans hb6 hb7)).below hw) (by rw [roots_len]; omega)
          rw [roots_len] at h
          exact h)
        have y0 := HX7.out.cell 0
        have y1 := HX7.out.lt
        have y2 := HK7.out.cell 0
        have y3 := HK7.out.lt
        clear hb6 hb7 hot6 hov6 hta6 hov7 x0 x1
        go_upto_region 11 with fail
        rw [← hw7]
        clear hw7
        go_wp2_with fail
        refine (HHS.out _ (Below.refl _ _)).mono ?_
        rintro e w8 ⟨rfl, hb8⟩
        have HB8 := Lib.hid hb8
        clear hb8 y0 y1 y2 y3
        go_wp2_with fail
        refine (HVV.out _ HB8.out).mono ?_
        rintro e w9 ⟨rfl, hb9⟩
        have HB9 := Lib.hid (bl_trans HB8.out hb9)
        have z0 := (HG7.out.below HB9.out).cell 0
        have z1 := (HG7.out.below HB9.out).lt
        clear hb9
        go_wp2_with fail
        go_ret
        exact ⟨rfl, bl_trans HB7.out HB9.out⟩

set_option maxRecDepth 100000 in
theorem sweepNone.walk {H : Type} {enc : TypeId × Value → H} {W : World} {base : Nat}
    {v0 : Value} {d0 : DataW H} {p0 : List MemPlace} (hv0 : Value.okWide Tryz.prog W .any base 22 v0) (h0 : DataW.Trod enc Tryz.prog W 0 (fun _ => true) true 22 v0 d0 p0)
    {v1 : Value} {d1 : DataW H} {p1 : List MemPlace} (hv1 : Value.okWide Tryz.prog W .any base 25 v1) (h1 : DataW.Trod enc Tryz.prog W 0 (fun _ => true) true 25 v1 d1 p1)
    (W' : World) (hW : W' = W) (hL : laidMetH Tryz.prog Rows.sweepNoneUptoRow.laid W) {S : Prop} (_ : S) (hbulk : Rows.uptoBulkAll [d0, d1] ≤ 1048576) :
    Calls Tryz.prog 4 #[v0, v1] W' fun e w' => e = .returned (.bool true) ∧ Below W'.heap.size W' w' := by
  subst hW
  obtain ⟨a0, len0, cap0, rfl⟩ := WideShapes.okWide_slice Tryz.underlying22 hv0
  obtain ⟨fuel0, hf0⟩ := h0
  obtain ⟨aa0, cc0, l0, ps0, hcs0, hC0, hll0, ht0⟩ := open_classes hf0
  simp only [Value.cells, List.cons.injEq, and_true] at hcs0
  rw [hcs0]
  obtain ⟨ha1, hc1, X1, hp1, rfl, hT1, hH1⟩ := open_heapV hv1 h1
  simp only [Rows.uptoBulkAll, Rows.uptoBulk] at hbulk
  exact sweepNone_go l0 ps0 aa0 cc0 X1 hp1 ha1 hc1 W' hC0 (forms_of_laid hL (by kernel_rfl)) (ht0 (by omega)) hT1 (hH1 (by omega))
end Go.Proofs.YtanjggdmgeedlaaGreatDoor
