/-
  HeapNull: the walk of the law.
-/
import Derived.Test.YtkobgmacoakelaaGreatDoorHeap5
import Derived.Test.YtkobgmacoakelaaGreatDoorWrapC
import Derived.Test.YtkobgmacoakelaaGreatDoorFrame
namespace Go.Proofs.YtkobgmacoakelaaGreatDoor
set_option linter.unusedVariables false
set_option linter.unusedSimpArgs false
open Go.RowKit Go.Shelf Go.Lib Go.Sort

set_option maxRecDepth 100000 in
theorem hword (k : Nm) (hk : TypeOk k) (w : World) : Calls Tryz.prog 10 #[.string ⟨⟨k⟩⟩] w fun e w' => e = .returned (.tuple #[.bool (numB k), .nilIface]) ∧ Below w.heap.size w w' := by
  have HC := Lib.hid (fun w => check_ok k hk w)
  have HN := Lib.hid (fun w => number_calls k w)
  clear hk
  generalize numB k = q at *
  go_enter Tryz.func10, Tryz.ntmps10
  go_wp2_with fail
  refine (HC.out _).mono ?_
  rintro e w1 ⟨rfl, hb1⟩
  have HB1 := Lib.hid hb1
  clear hb1
  go_wp2_with fail
  refine (HN.out _).mono ?_
  rintro e w1 ⟨rfl, rfl⟩
  go_wp2_with fail
  go_ret2
  exact ⟨rfl, HB1.out⟩
set_option maxRecDepth 100000 in
theorem hword_any (k : Nm) (hk : k.length ≤ 8388608) (w : World) : Calls Tryz.prog 10 #[.string ⟨⟨k⟩⟩] w fun e w' => (∃ q g, e = .returned (.tuple #[.bool q, g]) ∧ (g = .nilIface ∨ g = errV 1)) ∧ Below w.heap.size w w' := by
  by_cases h : TypeOk k
  · exact (hword k h w).mono (fun e w' ⟨h1, h2⟩ => ⟨⟨_, _, h1, Or.inl rfl⟩, h2⟩)
  · have HC := Lib.hid (fun w => check_bad k h (by omega) w)
    clear h
    go_enter Tryz.func10, Tryz.ntmps10
    go_wp2_with fail
    refine (HC.out _).mono ?_
    rintro e w1 ⟨rfl, hb1⟩
    have HB1 := Lib.hid hb1
    clear hb1
    go_wp2_with fail
    go_ret2
    exact ⟨⟨false, errV 1, rfl, Or.inr rfl⟩, HB1.out⟩

theorem null_is (L : List ClassR) (tys : List Nm) {k : Nm} (hk : TypeOk k) : valB L tys ⟨3, 0⟩ k = !(numB k) := by
  obtain ⟨d, b, rfl, _, _⟩ := type_kd.1 hk
  unfold valB
  rw [← refs_head, refs_text]
  have h1 : numB (Kd.ty d b).text = !((Kd.ty d b).refs) := by
    cases d with
    | zero => cases b <;> rfl
    | succ d => rfl
  rw [h1]
  simp
theorem num_is (L : List ClassR) (tys : List Nm) (n : Int) (k : Nm) : valB L tys ⟨1, wrap32 n⟩ k = (k == [73]) := by
  unfold valB
  have : wrap32 n = wrap32 (wrap32 n) := by rw [wrap32k, wrap32k]; omega
  rw [if_pos rfl, decide_eq_true this, Bool.and_true]

set_option maxRecDepth 100000 in
set_option maxHeartbeats 8000000 in
theorem heapNull_go (l : List ClassR) (cs : List CAddr) (a0 : Option Addr) (c0 : Nat) (X : List ThingR) (ps : List HA) (a : Option Addr) (cap : Nat) (k : Nm) (n : Int) (w : World) (hC : ClassesAt w a0 c0 l cs) (hF : FormsAt w) (hB : ClsOk l) (hT : ThingsAt w a cap X ps) (hH : HpB X) (hk : k.length ≤ 8388608) (hn : -9223372036854775808 ≤ n ∧ n ≤ 9223372036854775807) :
    Calls Tryz.prog 3 #[.slice a0 l.length c0, .agg #[.slice a X.length cap], .string ⟨⟨k⟩⟩, .int .i64 n] w fun e w' => e = .returned (.bool true) ∧ Below w.heap.size w w' := by
  obtain ⟨w1, hw1⟩ : ∃ w1, w1 = w.alloc (.cells #[.slice a X.length cap] 25) := ⟨_, rfl⟩
  have HX := Lib.hid (show Blk w1 w.heap.size 25 #[.slice a X.length cap] by rw [hw1]; exact blk_new _ _ _ _ rfl)
  have HB1 := Lib.hid (show Below w.heap.size w w1 by rw [hw1]; exact bl_alloc (Below.refl _ _) _)
  have HHO := Lib.hid (fun (v : ValR) W (hw : Below w.heap.size w W) => (show Calls Tryz.prog 8 #[.slice a0 l.length c0, .agg #[.slice a X.length cap], .agg #[.int .i64 v.kind, .int .i64 v.n], .string ⟨⟨k⟩⟩] W (HoldsRes (holdsErr l X k) (valB (wl l) (X.map (·.ty)) v k) W) from holds_calls l cs a0 c0 X ps a cap v k W (hC.below hw) (hF.below hw) hB (hT.below hw) hH hk))
  have HWR := Lib.hid (fun w => show Calls Tryz.prog 9 #[.int .i64 n] w (fun e w' => e = .returned (.int .i64 (wrap32 n)) ∧ Below w.heap.size w w') from (wrap_calls n w hn.1 hn.2).mono (fun e w' ⟨h1, h2⟩ => ⟨h1, by rw [← h2]; exact Below.refl _ _⟩))
  clear hC hF hB hT hH hn
  by_cases hz : holdsErr l X k = 0
  · obtain ⟨_, _, hk2, _⟩ := holds_zero.1 hz
    have HWD := Lib.hid (fun w => hword k hk2 w)
    have H1 := Lib.hid (show ∀ W, Below w.heap.size w W → Calls Tryz.prog 8 #[.slice a0 l.length c0, .agg #[.slice a X.length cap], .agg #[.int .i64 3, .int .i64 0], .string ⟨⟨k⟩⟩] W fun e w' => e = .returned (.tuple #[.bool (!(numB k)), .nilIface]) ∧ Below W.heap.size W w' from fun W hw => (HHO.out ⟨3, 0⟩ W hw).mono (fun e w' ⟨hb, h⟩ => by
      rcases h with ⟨h, _⟩ | ⟨_, h⟩
      · exact absurd hz h
      · rw [null_is _ _ hk2] at h; exact ⟨h, hb⟩))
    have H2 := Lib.hid (show ∀ W, Below w.heap.size w W → Calls Tryz.prog 8 #[.slice a0 l.length c0, .agg #[.slice a X.length cap], .agg #[.int .i64 1, .int .i64 (wrap32 n)], .string ⟨⟨k⟩⟩] W fun e w' => e = .returned (.tuple #[.bool (k == [73]), .nilIface]) ∧ Below W.heap.size W w' from fun W hw => (HHO.out ⟨1, wrap32 n⟩ W hw).mono (fun e w' ⟨hb, h⟩ => by
      rcases h with ⟨h, _⟩ | ⟨_, h⟩
      · exact absurd hz h
      · rw [num_is] at h; exact ⟨h, hb⟩))
    clear HHO hz hk2
    generalize numB k = q at *
    generalize hy : (k == [73]) = y at *
    generalize wrap32 n = z at *
    go_enter Tryz.func3, Tryz.ntmps3
    go_wp2_with fail
    rw [← hw1]
    clear hw1
    refine (named_true _).mono ?_
    rintro e w2 ⟨rfl, hb2⟩
    have HB2 := Lib.hid (bl_trans HB1.out hb2)
    have HX2 := Lib.hid (HX.out.below hb2)
    have e0 := HX2.out.cell 0
    have e1 := HX2.out.lt
    clear hb2 HX
    go_wp2_with fail
    refine (H1.out _ HB2.out).mono ?_
    rintro e w3 ⟨rfl, hb3⟩
    have HB3 := Lib.hid (bl_trans HB2.out hb3)
    have HX3 := Lib.hid (HX2.out.below hb3)
    have HG := Lib.hid (fun (d : Nat) (os : Array Obj) => below_regrown w3 d os)
    have g0 := fun (d : Nat) (os : Array Obj) => (show (grow (redrawn w3 d) os).cell? ⟨w.heap.size, 0, none⟩ = some (.slice a X.length cap) from (HX3.out.below (HG.out d os)).cell 0)
    clear hb3 e0 e1
    go_upto_region 5 with fail
    refine wp_region_quiet_below (by kernel_rfl) (by kernel_rfl) ?_
    repeat (first | go_big_quiet_step (first | exact Calls.regrown_of (HWR.out _) | exact Calls.regrown_of (H2.out _ (bl_trans HB3.out (HG.out _ _)))) | quiet_step (first | exact Calls.regrown_of (HWR.out _) | exact Calls.regrown_of (H2.out _ (bl_trans HB3.out (HG.out _ _)))))
    refine wpQuiet_nil ?_
    intro _ hw'
    obtain ⟨⟨dq, osq⟩, hw''⟩ := hw'
    subst hw''
    have HB4 := Lib.hid (bl_trans HB3.out (HG.out dq osq))
    clear g0
    go_wp2_with fail
    refine (HWD.out _).mono ?_
    rintro e w5 ⟨rfl, hb5⟩
    have HB5 := Lib.hid (bl_trans HB4.out hb5)
    clear hb5
    go_wp2_with fail
    go_ret
    exact ⟨ret_bool (by cases q <;> cases y <;> rfl), HB5.out⟩
  · have HWD := Lib.hid (fun w => hword_any k hk w)
    have H1 := Lib.hid (show ∀ (v : ValR) W, Below w.heap.size w W → Calls Tryz.prog 8 #[.slice a0 l.length c0, .agg #[.slice a X.length cap], .agg #[.int .i64 v.kind, .int .i64 v.n], .string ⟨⟨k⟩⟩] W fun e w' => e = .returned (.tuple #[.bool false, errV (holdsErr l X k)]) ∧ Below W.heap.size W w' from fun v W hw => (HHO.out v W hw).mono (fun e w' ⟨hb, h⟩ => by
      rcases h with ⟨_, h⟩ | ⟨h, _⟩
      · exact ⟨h, hb⟩
      · exact absurd h hz))
    generalize holdsErr l X k = z at *
    clear HHO hz
    have H2 := Lib.hid (fun W hw => H1.out ⟨3, 0⟩ W hw)
    have H3 := Lib.hid (fun W hw => H1.out ⟨1, wrap32 n⟩ W hw)
    simp only at H2 H3
    generalize wrap32 n = y at *
    go_enter Tryz.func3, Tryz.ntmps3
    go_wp2_with fail
    rw [← hw1]
    clear hw1
    refine (named_true _).mono ?_
    rintro e w2 ⟨rfl, hb2⟩
    have HB2 := Lib.hid (bl_trans HB1.out hb2)
    have HX2 := Lib.hid (HX.out.below hb2)
    have e0 := HX2.out.cell 0
    have e1 := HX2.out.lt
    clear hb2 HX
    go_wp2_with fail
    refine (H2.out _ HB2.out).mono ?_
    rintro e w3 ⟨rfl, hb3⟩
    have HB3 := Lib.hid (bl_trans HB2.out hb3)
    have HX3 := Lib.hid (HX2.out.below hb3)
    have HG := Lib.hid (fun (d : Nat) (os : Array Obj) => below_regrown w3 d os)
    have g0 := fun (d : Nat) (os : Array Obj) => (show (grow (redrawn w3 d) os).cell? ⟨w.heap.size, 0, none⟩ = some (.slice a X.length cap) from (HX3.out.below (HG.out d os)).cell 0)
    clear hb3 e0 e1
    go_upto_region 5 with fail
    refine wp_region_quiet_below (by kernel_rfl) (by kernel_rfl) ?_
    repeat (first | go_big_quiet_step (first | exact Calls.regrown_of (HWR.out _) | exact Calls.regrown_of (H3.out _ (bl_trans HB3.out (HG.out _ _)))) | quiet_step (first | exact Calls.regrown_of (HWR.out _) | exact Calls.regrown_of (H3.out _ (bl_trans HB3.out (HG.out _ _)))))
    refine wpQuiet_nil ?_
    intro _ hw'
    obtain ⟨⟨dq, osq⟩, hw''⟩ := hw'
    subst hw''
    have HB4 := Lib.hid (bl_trans HB3.out (HG.out dq osq))
    clear g0
    go_wp2_with fail
    refine (HWD.out _).mono ?_
    rintro e w5 ⟨⟨q, g, rfl, hg⟩, hb5⟩
    have HB5 := Lib.hid (bl_trans HB4.out hb5)
    clear hb5
    rcases hg with rfl | rfl
    · go_wp2_with fail
      go_ret
      exact ⟨ret_bool (by simp), HB5.out⟩
    · go_wp2_with fail
      go_ret
      exact ⟨ret_bool (by simp), HB5.out⟩

set_option maxRecDepth 100000 in
theorem heapNull.walk {H : Type} {enc : TypeId × Value → H} {W : World} {base : Nat}
    {v0 : Value} {d0 : DataW H} {p0 : List MemPlace} (hv0 : Value.okWide Tryz.prog W .any base 22 v0) (h0 : DataW.Trod enc Tryz.prog W 0 (fun _ => true) true 22 v0 d0 p0)
    {v1 : Value} {d1 : DataW H} {p1 : List MemPlace} (hv1 : Value.okWide Tryz.prog W .any base 25 v1) (h1 : DataW.Trod enc Tryz.prog W 0 (fun _ => true) true 25 v1 d1 p1)
    (s2 : ByteArray) (hs2 : s2.size ≤ maxLen) (hr2 : s2.data.toList.length ≤ reachBytes)
    (n3 : Int) (wf3 : (Lit.int .i64 n3).wf = true)
    (W' : World) (hW : W' = W) (hL : laidMetH Tryz.prog Rows.heapNullUptoRow.laid W) {S : Prop} (_ : S) (hbulk : Rows.uptoBulkAll [d0, d1, DataW.lit (.string s2.data.toList), DataW.lit (.int .i64 n3)] ≤ 1048576) :
    Calls Tryz.prog 3 #[v0, v1, .string s2, .int .i64 n3] W' fun e w' => e = .returned (.bool true) ∧ Below W'.heap.size W' w' := by
  subst hW
  obtain ⟨a0, len0, cap0, rfl⟩ := WideShapes.okWide_slice Tryz.underlying22 hv0
  obtain ⟨fuel0, hf0⟩ := h0
  obtain ⟨aa0, cc0, l0, ps0, hcs0, hC0, hll0, ht0⟩ := open_classes hf0
  simp only [Value.cells, List.cons.injEq, and_true] at hcs0
  rw [hcs0]
  obtain ⟨ha1, hc1, X1, hp1, rfl, hT1, hH1⟩ := open_heapV hv1 h1
  obtain ⟨⟨x2⟩⟩ := s2
  simp only [Rows.uptoBulkAll, Rows.uptoBulk] at hbulk
  exact heapNull_go l0 ps0 aa0 cc0 X1 hp1 ha1 hc1 x2 n3 W' hC0 (forms_of_laid hL (by kernel_rfl)) (ht0 (by omega)) hT1 (hH1 (by omega)) (by omega) (i64_bounds wf3)
end Go.Proofs.YtkobgmacoakelaaGreatDoor
