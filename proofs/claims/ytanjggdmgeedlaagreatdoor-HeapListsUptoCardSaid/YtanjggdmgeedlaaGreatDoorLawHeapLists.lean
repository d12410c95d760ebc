/-
  HeapLists: the walk of the law.
-/
import Derived.Test.YtanjggdmgeedlaaGreatDoorHeap9
import Derived.Test.YtanjggdmgeedlaaGreatDoorPHeapM
import Derived.Test.YtanjggdmgeedlaaGreatDoorFrame
namespace Go.Proofs.YtanjggdmgeedlaaGreatDoor
set_option linter.unusedVariables false
set_option linter.unusedSimpArgs false
open Go.RowKit Go.Shelf Go.Lib Go.Sort

theorem zero_kd (k : Nm) : ∃ q : Int, zeroV k = ⟨q, 0⟩ ∧ -9223372036854775808 ≤ q ∧ q ≤ 9223372036854775807 := by
  unfold zeroV
  split
  · exact ⟨1, rfl, by decide, by decide⟩
  · split
    · exact ⟨2, rfl, by decide, by decide⟩
    · exact ⟨3, rfl, by decide, by decide⟩
theorem more_hpb {X : List ThingR} {k : Nm} {m : Nat} {q : Int} (hX : X.length < 50) (hH : HpB X) (hm : m ≤ 10) (hk : k.length ≤ 1048576) (h1 : -9223372036854775808 ≤ q) (h2 : q ≤ 9223372036854775807) : HpB (X ++ [⟨91 :: k, List.replicate m ⟨q, 0⟩⟩]) := by
  refine ⟨by rw [List.length_append, List.length_singleton]; omega, fun x hx => ?_⟩
  rcases List.mem_append.1 hx with hx | hx
  · exact hH.2 x hx
  · rw [List.mem_singleton.1 hx]
    refine ⟨by simp; omega, by simp; omega, fun v hv => ?_⟩
    rw [List.eq_of_mem_replicate hv]
    exact ⟨⟨h1, h2⟩, show (-9223372036854775808 : Int) ≤ 0 by decide, show (0 : Int) ≤ 9223372036854775807 by decide⟩

set_option maxRecDepth 100000 in
set_option maxHeartbeats 8000000 in
theorem heapLists_go (l : List ClassR) (cs : List CAddr) (a0 : Option Addr) (c0 : Nat) (X : List ThingR) (ps : List HA) (a : Option Addr) (cap : Nat) (k : Nm) (n : Int) (w : World) (hC : ClassesAt w a0 c0 l cs) (hF : FormsAt w) (hB : ClsOk l) (hT : ThingsAt w a cap X ps) (hH : HpB X) (hk : k.length ≤ 1048576) (hn : -9223372036854775808 ≤ n ∧ n ≤ 9223372036854775807) :
    Calls Tryz.prog 3 #[.slice a0 l.length c0, .agg #[.slice a X.length cap], .string ⟨⟨k⟩⟩, .int .i64 n] w fun e w' => e = .returned (.bool true) ∧ Below w.heap.size w w' := by
  obtain ⟨w1, hw1⟩ : ∃ w1, w1 = w.alloc (.cells #[.slice a X.length cap] 25) := ⟨_, rfl⟩
  have HX := Lib.hid (show Blk w1 w.heap.size 25 #[.slice a X.length cap] by rw [hw1]; exact blk_new _ _ _ _ rfl)
  have HB1 := Lib.hid (show Below w.heap.size w w1 by rw [hw1]; exact bl_alloc (Below.refl _ _) _)
  have HAR := Lib.hid (fun W (hw : Below w.heap.size w W) => array_calls l cs a0 c0 X ps a cap k n W (hC.below hw) (hF.below hw) hB (hT.below hw) hH hk)
  have HHO := Lib.hid (fun (Y : List ThingR) (qs : List HA) (A : Option Addr) (C : Nat) (v : ValR) (t : Nm) W (hw : Below w.heap.size w W) (hY : ThingsAt W A C Y qs) (hHY : HpB Y) (ht : t.length ≤ 8388608) => holds_calls l cs a0 c0 Y qs A C v t W (hC.below hw) (hF.below hw) hB hY hHY ht)
  have HHH := Lib.hid hH
  have hkm : (91 :: k).length ≤ maxLen := by simp [maxLen]; omega
  have HK := Lib.hid hk
  clear hC hF hB hT hH hn
  go_enter Tryz.func3, Tryz.ntmps3
  go_wp2_with fail
  rw [← hw1]
  clear hw1
  refine (named_true _).mono ?_
  rintro e w2 ⟨rfl, hb2⟩
  have HB2 := Lib.hid (bl_trans HB1.out hb2)
  have HX2 := Lib.hid (HX.out.below hb2)
  have e0 := HX2.out.cell 0
  have e1 := HX2.out.lt
  clear hb2 HX
  go_wp2_with fail
  refine (HAR.out _ HB2.out).mono ?_
  rintro e w3 ⟨hb3, ⟨z, hz, rfl⟩ | ⟨hok, m, rfl, hm, v, qs, rfl, hot⟩⟩
  · have HB3 := Lib.hid (bl_trans HB2.out hb3)
    clear hb3 e0 e1 HAR HHO
    go_wp2_with fail
    go_ret
    exact ⟨rfl, bl_alloc HB3.out _⟩
  · obtain ⟨hg, hr, hT, hkz, h50⟩ := hok
    obtain ⟨q, hq, hq1, hq2⟩ := zero_kd k
    rw [hq] at hot
    have hmr := more_right hr hT hkz h50 hm
    rw [hq] at hmr
    have HHP := Lib.hid (more_hpb (q := q) (k := k) h50 HHH.out hm HK.out hq1 hq2)
    obtain ⟨Y, hY⟩ : ∃ Y, Y = X ++ [(⟨91 :: k, List.replicate m ⟨q, 0⟩⟩ : ThingR)] := ⟨_, rfl⟩
    have hYl : Y.length = X.length + 1 := by rw [hY]; simp
    have hYn : Y[X.length]? = some ⟨91 :: k, List.replicate m ⟨q, 0⟩⟩ := by rw [hY]; simp
    have HV1 := Lib.hid (show valB (wl l) (Y.map (·.ty)) ⟨q, 0⟩ k = true by rw [← hq]; exact zero_val _ _ hT)
    have HV2 := Lib.hid (show valB (wl l) (Y.map (·.ty)) ⟨3, (X.length : Int) + 1⟩ (91 :: k) = true by rw [hY]; exact at_new hT _)
    rw [← hY] at hot hmr HHP
    have HZ1 := Lib.hid (show holdsErr l Y k = 0 from holds_zero.2 ⟨hg, hmr, arr_type hT, hkz⟩)
    have HZ2 := Lib.hid (show holdsErr l Y (91 :: k) = 0 from holds_zero.2 ⟨hg, hmr, hT, arr_kind hT hkz⟩)
    obtain ⟨A, C, rfl, hta⟩ := hot.at
    have HTA := Lib.hid hta
    obtain ⟨b4, off4, p4, rfl, hlt4, _, hhas, c0', c1'⟩ := hta.cells hYn
    simp only [List.length_replicate] at c1'
    have HHAS := Lib.hid hhas
    rw [hYl]
    have HB3 := Lib.hid (bl_trans HB2.out hb3)
    have hl3 : w.heap.size < w3.heap.size := Nat.lt_of_lt_of_le e1 hb3.size
    have HX3 := Lib.hid (HX2.out.below hb3)
    have hi1 : (0 : Int) ≤ (X.length : Int) := Int.natCast_nonneg _
    have hi2 : (X.length : Int) < ((X.length : Int) + 1) := by omega
    obtain ⟨w4, hw4⟩ : ∃ w4, w4 = (w3.alloc (.cells #[.slice (some ⟨b4, off4, none⟩) (X.length + 1) C] 25)).alloc (.cells #[.string ⟨⟨91 :: k⟩⟩, .slice p4.1 m p4.2] 33) := ⟨_, rfl⟩
    have hb4 : Below w3.heap.size w3 w4 := by rw [hw4]; exact bl_alloc (bl_alloc (Below.refl _ _) _) _
    have HB4 := Lib.hid hb4
    have HD10 := Lib.hid (show Blk w4 w3.heap.size 25 #[.slice (some ⟨b4, off4, none⟩) (X.length + 1) C] by rw [hw4]; exact (blk_new _ _ _ _ rfl).alloc _)
    have HD13 := Lib.hid (show Blk w4 (w3.heap.size + 1) 33 #[.string ⟨⟨91 :: k⟩⟩, .slice p4.1 m p4.2] by rw [hw4]; exact blk_new _ _ _ _ (by simp))
    have HE1 := Lib.hid (show ∀ W, Below w4.heap.size w4 W → Calls Tryz.prog 11 #[.slice a0 l.length c0, .agg #[.slice (some ⟨b4, off4, none⟩) (X.length + 1) C], .agg #[.int .i64 q, .int .i64 0], .string ⟨⟨k⟩⟩] W fun e w' => e = .returned (.tuple #[.bool true, .nilIface]) ∧ Below W.heap.size W w' from fun W hw => by
      have hbw : Below w3.heap.size w3 W := bl_trans HB4.out hw
      have h := HHO.out Y qs (some ⟨b4, off4, none⟩) C ⟨q, 0⟩ k W (bl_trans HB3.out hbw) (HTA.out.below hbw) HHP.out (by have := HK.out; omega)
      rw [hYl] at h
      refine h.mono (fun e w' ⟨hb, h⟩ => ?_)
      rcases h with ⟨h, _⟩ | ⟨_, h⟩
      · exact absurd HZ1.out h
      · rw [HV1.out] at h; exact ⟨h, hb⟩)
    have HE2 := Lib.hid (show ∀ W, Below w4.heap.size w4 W → Calls Tryz.prog 11 #[.slice a0 l.length c0, .agg #[.slice (some ⟨b4, off4, none⟩) (X.length + 1) C], .agg #[.int .i64 3, .int .i64 ((X.length : Int) + 1)], .string ⟨⟨91 :: k⟩⟩] W fun e w' => e = .returned (.tuple #[.bool true, .nilIface]) ∧ Below W.heap.size W w' from fun W hw => by
      have hbw : Below w3.heap.size w3 W := bl_trans HB4.out hw
      have h := HHO.out Y qs (some ⟨b4, off4, none⟩) C ⟨3, (X.length : Int) + 1⟩ (91 :: k) W (bl_trans HB3.out hbw) (HTA.out.below hbw) HHP.out (by have := HK.out; simp; omega)
      rw [hYl] at h
      refine h.mono (fun e w' ⟨hb, h⟩ => ?_)
      rcases h with ⟨h, _⟩ | ⟨_, h⟩
      · exact absurd HZ2.out h
      · rw [HV2.out] at h; exact ⟨h, hb⟩)
    have HHA4 := Lib.hid (HHAS.out.below hb4)
    have HX4 := Lib.hid (HX3.out.below hb4)
    clear hb3 hb4 hg hr hT hkz hq hq1 hq2 hmr hY hYn hot hta hhas HAR HHO HZ1 HZ2 HV1 HV2 HHAS HX2 HX3 hYl
    go_wp2_with fail
    rw [← hw4]
    clear hw4 e0 e1 c0' c1'
    go_loopw [14] (fun i wr => ∃ j : Nat, j ≤ m ∧ i = .int .i64 j ∧ Below w4.heap.size w4 wr) (fun i _ => m - (RowKit.intOf i).toNat)
    case atStart => exact ⟨0, by omega, rfl, Below.refl _ _⟩
    case round =>
      obtain ⟨j, hj, rfl, hbr⟩ := hrel
      have HBR := Lib.hid hbr
      have HD13r := Lib.hid (HD13.out.below hbr)
      have HD10r := Lib.hid (HD10.out.below hbr)
      have d1 := HD13r.out.cell 1
      have d2 := HD13r.out.lt
      have hj0 : (0 : Int) ≤ (j : Int) := Int.natCast_nonneg _
      by_cases hlj : j < m
      · have hji : (j : Int) < (m : Int) := by omega
        obtain ⟨b5, off5, hp5, hlt5, f0, f1⟩ := (HHA4.out.below hbr).cells (k := j) (v := ⟨q, 0⟩) (List.getElem?_replicate_of_lt hlj)
        rw [hp5] at d1 ⊢
        rw [hp5] at HD13r
        have HG := Lib.hid (fun (d : Nat) (os : Array Obj) => below_regrown wr d os)
        have g0 := fun (d : Nat) (os : Array Obj) => (show (grow (redrawn wr d) os).cell? ⟨w3.heap.size, 0, none⟩ = some (.slice (some ⟨b4, off4, none⟩) (X.length + 1) C) from (HD10r.out.below (HG.out d os)).cell 0)
        have g1 := fun (d : Nat) (os : Array Obj) => (show (grow (redrawn wr d) os).cell? ⟨w3.heap.size + 1, 1, none⟩ = some (.slice (some ⟨b5, off5, none⟩) m p4.2) from (HD13r.out.below (HG.out d os)).cell 1)
        have g2 := fun (d : Nat) (os : Array Obj) => (show (grow (redrawn wr d) os).cell? ⟨b5, off5 + j * 2, none⟩ = some (.int .i64 q) from (World.cell?_of_block ((HG.out d os).block b5 hlt5)).trans f0)
        have g3 := fun (d : Nat) (os : Array Obj) => (show (grow (redrawn wr d) os).cell? ⟨b5, off5 + j * 2 + 1, none⟩ = some (.int .i64 0) from (World.cell?_of_block ((HG.out d os).block b5 hlt5)).trans f1)
        clear hbr
        go_upto_region 11 with fail
        refine wp_region_quiet_below (by kernel_rfl) (by kernel_rfl) ?_
        repeat (first | go_big_quiet_step (exact Calls.regrown_of (HE1.out _ (bl_trans HBR.out (HG.out _ _)))) | quiet_step (exact Calls.regrown_of (HE1.out _ (bl_trans HBR.out (HG.out _ _)))))
        refine wpQuiet_nil ?_
        intro _ hw'
        obtain ⟨⟨dq, osq⟩, hw''⟩ := hw'
        subst hw''
        have HB5 := Lib.hid (bl_trans HBR.out (HG.out dq osq))
        have k1 := g1 dq osq
        have k3 := g3 dq osq
        clear g0 g1 g2 g3 d1 f0 f1
        go_wp2_with fail
        go_roundw
        case rel => exact ⟨j + 1, by omega, by go_num, HB5.out⟩
        case measure => simp [RowKit.intOf]; omega
      · obtain rfl : j = m := by omega
        have d3 := HD10r.out.cell 0
        have d4 := HD10r.out.lt
        clear hbr
        go_wp2_with fail
        refine (HE2.out _ HBR.out).mono ?_
        rintro e w6 ⟨rfl, hb6⟩
        have HB6 := Lib.hid (bl_trans HB3.out (bl_trans HB4.out (bl_trans HBR.out hb6)))
        have x0 := (HX4.out.below (bl_trans HBR.out hb6)).cell 0
        have x1 := (HX4.out.below (bl_trans HBR.out hb6)).lt
        have x2 := (HD13r.out.below hb6).cell 1
        have x3 := (HD13r.out.below hb6).lt
        clear hb6 d1 d2 d3 d4
        go_wp2_with fail
        go_ret
        exact ⟨rfl, HB6.out⟩

set_option maxRecDepth 100000 in
theorem heapLists.walk {H : Type} {enc : TypeId × Value → H} {W : World} {base : Nat}
    {v0 : Value} {d0 : DataW H} {p0 : List MemPlace} (hv0 : Value.okWide Tryz.prog W .any base 22 v0) (h0 : DataW.Trod enc Tryz.prog W 0 (fun _ => true) true 22 v0 d0 p0)
    {v1 : Value} {d1 : DataW H} {p1 : List MemPlace} (hv1 : Value.okWide Tryz.prog W .any base 25 v1) (h1 : DataW.Trod enc Tryz.prog W 0 (fun _ => true) true 25 v1 d1 p1)
    (s2 : ByteArray) (hs2 : s2.size ≤ maxLen) (hr2 : s2.data.toList.length ≤ reachBytes)
    (n3 : Int) (wf3 : (Lit.int .i64 n3).wf = true)
    (W' : World) (hW : W' = W) (hL : laidMetH Tryz.prog Rows.heapListsUptoRow.laid W) {S : Prop} (_ : S) (hbulk : Rows.uptoBulkAll [d0, d1, DataW.lit (.string s2.data.toList), DataW.lit (.int .i64 n3)] ≤ 1048576) :
    Calls Tryz.prog 3 #[v0, v1, .string s2, .int .i64 n3] W' fun e w' => e = .returned (.bool true) ∧ Below W'.heap.size W' w' := by
  subst hW
  obtain ⟨a0, len0, cap0, rfl⟩ := WideShapes.okWide_slice Tryz.underlying22 hv0
  obtain ⟨fuel0, hf0⟩ := h0
  obtain ⟨aa0, cc0, l0, ps0, hcs0, hC0, hll0, ht0⟩ := open_classes hf0
  simp only [Value.cells, List.cons.injEq, and_true] at hcs0
  rw [hcs0]
  obtain ⟨ha1, hc1, X1, hp1, rfl, hT1, hH1⟩ := open_heapV hv1 h1
  obtain ⟨⟨x2⟩⟩ := s2
  simp only [Rows.uptoBulkAll, Rows.uptoBulk] at hbulk
  exact heapLists_go l0 ps0 aa0 cc0 X1 hp1 ha1 hc1 x2 n3 W' hC0 (forms_of_laid hL (by kernel_rfl)) (ht0 (by omega)) hT1 (hH1 (by omega)) (by omega) (i64_bounds wf3)
end Go.Proofs.YtanjggdmgeedlaaGreatDoor
