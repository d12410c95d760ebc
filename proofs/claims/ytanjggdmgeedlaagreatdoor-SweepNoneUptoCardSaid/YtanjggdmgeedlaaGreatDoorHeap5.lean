/-
  The walks of heap.read, heap.Check, heap.Holds: exact; a heap as an argument.
-/
import Derived.Test.YtanjggdmgeedlaaGreatDoorHeap4
import Derived.Test.YtanjggdmgeedlaaGreatDoorOpens
namespace Go.Proofs.YtanjggdmgeedlaaGreatDoor
set_option linter.unusedVariables false
set_option linter.unusedSimpArgs false
open Go.RowKit Go.Shelf Go.Lib

def HRead (l : List ClassR) (cs : List CAddr) (X : List ThingR) (w : World) (e : Ending) (w' : World) : Prop :=
  Below w.heap.size w w' ∧ ((readErr l ≠ 0 ∧ e = .returned (.tuple #[.map none, errV (readErr l)])) ∨ (readErr l = 0 ∧ ∃ b, e = .returned (.tuple #[.map (some b), errOf (rightErr (wl l) X)]) ∧ WOk w' b l (wcp l cs)))

set_option maxRecDepth 100000 in
set_option maxHeartbeats 2000000 in
theorem hread_calls (l : List ClassR) (cs : List CAddr) (a0 : Option Addr) (c0 : Nat) (X : List ThingR) (ps : List HA) (a : Option Addr) (cap : Nat) (w : World) (hC : ClassesAt w a0 c0 l cs) (hF : FormsAt w) (hB : ClsOk l) (hT : ThingsAt w a cap X ps) (hH : HpB X) :
    Calls Tryz.prog 26 #[.slice a0 l.length c0, .agg #[.slice a X.length cap]] w (HRead l cs X w) := by
  obtain ⟨w1, hw1⟩ : ∃ w1, w1 = w.alloc (.cells #[.slice a X.length cap] 25) := ⟨_, rfl⟩
  have HX := Lib.hid (show Blk w1 w.heap.size 25 #[.slice a X.length cap] by rw [hw1]; exact blk_new _ _ _ _ rfl)
  have HB1 := Lib.hid (show Below w.heap.size w w1 by rw [hw1]; exact bl_alloc (Below.refl _ _) _)
  have HR := Lib.hid (fun W (hw : Below w.heap.size w W) => read_w l cs a0 c0 W (hC.below hw) (hF.below hw) hB)
  have HRT := Lib.hid (fun b W (hw : Below w.heap.size w W) (hW : WOk W b l (wcp l cs)) => right_calls l (wcp l cs) b X ps a cap W hW (hT.below hw) hH)
  clear hC hF hB hT hH
  go_enter Tryz.func26, Tryz.ntmps26
  go_wp2_with fail
  rw [← hw1]
  clear hw1
  refine (HR.out _ HB1.out).mono ?_
  rintro e w2 ⟨hb2, ⟨hz, rfl⟩ | ⟨hz, b, rfl, hW⟩⟩
  · have HB2 := Lib.hid (bl_trans HB1.out hb2)
    have HZ := Lib.hid hz
    obtain ⟨z, hze⟩ : ∃ z, z = readErr l := ⟨_, rfl⟩
    rw [← hze]
    have HZE := Lib.hid hze
    clear hb2 hz hze HR HRT
    go_wp2_with fail
    go_ret2
    exact ⟨HB2.out, Or.inl ⟨HZ.out, by rw [← HZE.out]; rfl⟩⟩
  · have HB2 := Lib.hid (bl_trans HB1.out hb2)
    have HZ := Lib.hid hz
    have HW := Lib.hid hW
    have HRT2 := Lib.hid (HRT.out b w2 HB2.out hW)
    have e0 := (HX.out.below hb2).cell 0
    have e1 := (HX.out.below hb2).lt
    clear hb2 hz hW HR HRT
    go_wp2_with fail
    refine HRT2.out.mono ?_
    rintro e w3 ⟨rfl, hb3⟩
    have HB3 := Lib.hid (bl_trans HB2.out hb3)
    have HW3 := Lib.hid (HW.out.below hb3)
    obtain ⟨z, hze⟩ : ∃ z, z = rightErr (wl l) X := ⟨_, rfl⟩
    rw [← hze]
    have HZE := Lib.hid hze
    clear hb3 hze
    go_wp2_with fail
    go_ret2
    exact ⟨HB3.out, Or.inr ⟨HZ.out, b, by rw [← HZE.out]; rfl, HW3.out⟩⟩

set_option maxRecDepth 100000 in
set_option maxHeartbeats 2000000 in
theorem hcheck_calls (l : List ClassR) (cs : List CAddr) (a0 : Option Addr) (c0 : Nat) (X : List ThingR) (ps : List HA) (a : Option Addr) (cap : Nat) (w : World) (hC : ClassesAt w a0 c0 l cs) (hF : FormsAt w) (hB : ClsOk l) (hT : ThingsAt w a cap X ps) (hH : HpB X) :
    Calls Tryz.prog 63 #[.slice a0 l.length c0, .agg #[.slice a X.length cap]] w fun e w' => e = .returned (errOf (hpErr l X)) ∧ Below w.heap.size w w' := by
  obtain ⟨w1, hw1⟩ : ∃ w1, w1 = w.alloc (.cells #[.slice a X.length cap] 25) := ⟨_, rfl⟩
  have HX := Lib.hid (show Blk w1 w.heap.size 25 #[.slice a X.length cap] by rw [hw1]; exact blk_new _ _ _ _ rfl)
  have hb1 : Below w.heap.size w w1 := by rw [hw1]; exact bl_alloc (Below.refl _ _) _
  have HB1 := Lib.hid hb1
  have HR := Lib.hid (hread_calls l cs a0 c0 X ps a cap w1 (hC.below hb1) (hF.below hb1) hB (hT.below hb1) hH)
  clear hC hF hB hT hH hb1
  go_enter Tryz.func63, Tryz.ntmps63
  go_wp2_with fail
  rw [← hw1]
  clear hw1
  refine HR.out.mono ?_
  rintro e w2 ⟨hb2, ⟨hz, rfl⟩ | ⟨hz, b, rfl, hW⟩⟩
  · have HB2 := Lib.hid (bl_trans HB1.out hb2)
    have HE := Lib.hid (show errOf (hpErr l X) = errV (readErr l) by unfold hpErr; rw [if_pos hz, errOf_ne hz])
    generalize readErr l = z at *
    clear hb2 hz HR
    go_wp2_with fail
    go_ret
    exact ⟨by rw [HE.out]; rfl, HB2.out⟩
  · have HB2 := Lib.hid (bl_trans HB1.out hb2)
    have HE := Lib.hid (show errOf (hpErr l X) = errOf (rightErr (wl l) X) by unfold hpErr; rw [if_neg (by simpa using hz)])
    generalize rightErr (wl l) X = z at *
    clear hb2 hz HR hW
    go_wp2_with fail
    go_ret
    exact ⟨by rw [HE.out]; rfl, HB2.out⟩

open Classical in
noncomputable def holdsErr (l : List ClassR) (X : List ThingR) (k : Nm) : Int := if hpErr l X ≠ 0 then hpErr l X else if ¬ TypeOk k then 1 else kindErr (wl l) k
theorem holds_zero {l : List ClassR} {X : List ThingR} {k : Nm} : holdsErr l X k = 0 ↔ Good l ∧ rightErr (wl l) X = 0 ∧ TypeOk k ∧ kindErr (wl l) k = 0 := by
  unfold holdsErr
  constructor
  · intro h
    split at h
    · rename_i h1; exact absurd h h1
    rename_i h1
    split at h
    · omega
    rename_i h2
    obtain ⟨h3, h4⟩ := hp_zero.1 (Classical.not_not.1 h1)
    exact ⟨h3, h4, Classical.not_not.1 h2, h⟩
  · rintro ⟨h1, h2, h3, h4⟩
    rw [if_neg (by rw [hp_zero.2 ⟨h1, h2⟩]; simp), if_neg (by simpa using h3), h4]
def HoldsRes (z : Int) (q : Bool) (w : World) (e : Ending) (w' : World) : Prop := Below w.heap.size w w' ∧ ((z ≠ 0 ∧ e = .returned (.tuple #[.bool false, errV z])) ∨ (z = 0 ∧ e = .returned (.tuple #[.bool q, .nilIface])))

open Classical in
set_option maxRecDepth 100000 in
set_option maxHeartbeats 4000000 in
theorem holds_calls (l : List ClassR) (cs : List CAddr) (a0 : Option Addr) (c0 : Nat) (X : List ThingR) (ps : List HA) (a : Option Addr) (cap : Nat) (v : ValR) (k : Nm) (w : World) (hC : ClassesAt w a0 c0 l cs) (hF : FormsAt w) (hB : ClsOk l) (hT : ThingsAt w a cap X ps) (hH : HpB X) (hk : k.length ≤ 8388608) :
    Calls Tryz.prog 11 #[.slice a0 l.length c0, .agg #[.slice a X.length cap], .agg #[.int .i64 v.kind, .int .i64 v.n], .string ⟨⟨k⟩⟩] w (HoldsRes (holdsErr l X k) (valB (wl l) (X.map (·.ty)) v k) w) := by
  obtain ⟨w1, hw1⟩ : ∃ w1, w1 = (w.alloc (.cells #[.slice a X.length cap] 25)).alloc (.cells #[.int .i64 v.kind, .int .i64 v.n] 37) := ⟨_, rfl⟩
  have HX := Lib.hid (show Blk w1 w.heap.size 25 #[.slice a X.length cap] by rw [hw1]; exact (blk_new _ _ _ _ rfl).alloc _)
  have HV := Lib.hid (show Blk w1 (w.heap.size + 1) 37 #[.int .i64 v.kind, .int .i64 v.n] by rw [hw1]; exact blk_new _ _ _ _ (by simp))
  have hb1 : Below w.heap.size w w1 := by rw [hw1]; exact bl_alloc (bl_alloc (Below.refl _ _) _) _
  have HB1 := Lib.hid hb1
  have HR := Lib.hid (hread_calls l cs a0 c0 X ps a cap w1 (hC.below hb1) (hF.below hb1) hB (hT.below hb1) hH)
  have HT := Lib.hid hT
  have HE := Lib.hid (show holdsErr l X k = if hpErr l X ≠ 0 then hpErr l X else if ¬ TypeOk k then 1 else kindErr (wl l) k from rfl)
  clear hC hF hB hT hH hb1
  go_enter Tryz.func11, Tryz.ntmps11
  go_wp2_with fail
  rw [← hw1]
  clear hw1
  refine HR.out.mono ?_
  rintro e w2 ⟨hb2, ⟨hz, rfl⟩ | ⟨hz, b, rfl, hW⟩⟩
  · have HB2 := Lib.hid (bl_trans HB1.out hb2)
    have hh : hpErr l X = readErr l := by unfold hpErr; rw [if_pos hz]
    have HE2 := Lib.hid (show holdsErr l X k = readErr l by rw [HE.out, hh, if_pos hz])
    have HZ := Lib.hid hz
    obtain ⟨z, hze⟩ : ∃ z, z = readErr l := ⟨_, rfl⟩
    rw [← hze]
    have HZE := Lib.hid hze
    clear hb2 hz HR hh hze HE
    go_wp2_with fail
    go_ret2
    exact ⟨HB2.out, Or.inl ⟨by rw [HE2.out]; exact HZ.out, by rw [HE2.out, ← HZE.out]; rfl⟩⟩
  · have HB2 := Lib.hid (bl_trans HB1.out hb2)
    have hh : hpErr l X = rightErr (wl l) X := by unfold hpErr; rw [if_neg (by simpa using hz)]
    rw [hh] at HE
    have HX2 := Lib.hid (HX.out.below hb2)
    have HV2 := Lib.hid (HV.out.below hb2)
    have HW := Lib.hid hW
    clear hb2 hz HR hW hh HX HV
    by_cases hr : rightErr (wl l) X = 0
    · rw [hr, errOf_zero]
      by_cases hk2 : TypeOk k
      · have HCK := Lib.hid (fun w => check_ok k hk2 w)
        have HKD := Lib.hid (fun W (hw : Below w2.heap.size w2 W) => kind_calls l (wcp l cs) b k W (HW.out.below hw) hk)
        have HE2 := Lib.hid (show holdsErr l X k = kindErr (wl l) k by rw [HE.out, if_neg (by simpa using hr), if_neg (by simpa using hk2)])
        by_cases hkz : kindErr (wl l) k = 0
        · have h50 := right_zero.1 hr
          have HDO := Lib.hid (fun W (hw : Below w2.heap.size w2 W) => show Calls Tryz.prog 31 #[.map (some b), .agg #[.slice a X.length cap], .agg #[.int .i64 v.kind, .int .i64 v.n], .string ⟨⟨k⟩⟩] W fun e w' => e = .returned (.bool (valB (wl l) (X.map (·.ty)) v k)) ∧ Below W.heap.size W w' from
            hdoes_calls l (wcp l cs) b X ps a cap v k W (HW.out.below hw) (HT.out.below (bl_trans HB2.out hw)) h50.2.1 (dt_ok hk2) h50.1)
          rw [hkz, errOf_zero] at HKD
          rw [hkz] at HE2
          obtain ⟨q, hq⟩ : ∃ q, q = valB (wl l) (X.map (·.ty)) v k := ⟨_, rfl⟩
          rw [← hq] at HDO
          have HQ := Lib.hid hq
          clear hq
          clear hr hk2 hkz h50 HE HT HW
          go_wp2_with fail
          refine (HCK.out _).mono ?_
          rintro e w3 ⟨rfl, hb3⟩
          have HB3 := Lib.hid hb3
          clear hb3
          go_wp2_with fail
          refine (HKD.out _ HB3.out).mono ?_
          rintro e w4 ⟨rfl, hb4⟩
          have hb24 := bl_trans HB3.out hb4
          have HB4 := Lib.hid hb24
          have e0 := (HX2.out.below hb24).cell 0
          have e1 := (HX2.out.below hb24).lt
          have e2 := (HV2.out.below hb24).cell 0
          have e3 := (HV2.out.below hb24).cell 1
          have e4 := (HV2.out.below hb24).lt
          clear hb4 hb24
          go_wp2_with fail
          refine (HDO.out _ HB4.out).mono ?_
          rintro e w5 ⟨rfl, hb5⟩
          have HB5 := Lib.hid (bl_trans (bl_trans HB2.out HB4.out) hb5)
          clear hb5
          go_wp2_with fail
          go_ret2
          exact ⟨HB5.out, Or.inr ⟨HE2.out, by rw [← HQ.out]; rfl⟩⟩
        · rw [errOf_ne hkz] at HKD
          have HZ := Lib.hid hkz
          obtain ⟨z, hze⟩ : ∃ z, z = kindErr (wl l) k := ⟨_, rfl⟩
          rw [← hze] at HKD
          have HZE := Lib.hid hze
          clear hr hk2 hkz hze HE HT HW
          go_wp2_with fail
          refine (HCK.out _).mono ?_
          rintro e w3 ⟨rfl, hb3⟩
          have HB3 := Lib.hid hb3
          clear hb3
          go_wp2_with fail
          refine (HKD.out _ HB3.out).mono ?_
          rintro e w4 ⟨rfl, hb4⟩
          have HB4 := Lib.hid (bl_trans HB2.out (bl_trans HB3.out hb4))
          clear hb4
          go_wp2_with fail
          go_ret2
          exact ⟨HB4.out, Or.inl ⟨by rw [HE2.out]; exact HZ.out, by rw [HE2.out, ← HZE.out]; rfl⟩⟩
      · have HCK := Lib.hid (fun w => check_bad k hk2 (by omega) w)
        have HE2 := Lib.hid (show holdsErr l X k = 1 by rw [HE.out, if_neg (by simpa using hr), if_pos (by simpa using hk2)])
        clear hr hk2 HE HT HW
        go_wp2_with fail
        refine (HCK.out _).mono ?_
        rintro e w3 ⟨rfl, hb3⟩
        have HB3 := Lib.hid (bl_trans HB2.out hb3)
        clear hb3
        go_wp2_with fail
        go_ret2
        exact ⟨HB3.out, Or.inl ⟨by rw [HE2.out]; decide, by rw [HE2.out]; rfl⟩⟩
    · rw [errOf_ne hr]
      have HZ := Lib.hid hr
      have HE2 := Lib.hid (show holdsErr l X k = rightErr (wl l) X by rw [HE.out, if_pos (by simpa using hr)])
      obtain ⟨z, hze⟩ : ∃ z, z = rightErr (wl l) X := ⟨_, rfl⟩
      rw [← hze]
      have HZE := Lib.hid hze
      clear hr hze HE HT HW
      go_wp2_with fail
      go_ret2
      exact ⟨HB2.out, Or.inl ⟨by rw [HE2.out]; exact HZ.out, by rw [HE2.out, ← HZE.out]; rfl⟩⟩

section
open Go.ChangeShapes Go.WideShapes Go.Deep
variable {H : Type} {enc : TypeId × Value → H} {W : World}
theorem zip_things : ∀ (L : List (ThingR × HA)), List.zipWith thCells (L.map (·.1)) (L.map (·.2)) = L.map (fun mq => thCells mq.1 mq.2)
  | [] => rfl
  | x :: r => by simp only [List.map_cons, List.zipWith_cons_cons, zip_things r]
theorem cells_Heap : Tryz.prog.cellsOf 25 = 1 := by kernel_rfl
theorem cells_Thing : Tryz.prog.cellsOf 33 = 2 := by kernel_rfl
theorem cells_Value : Tryz.prog.cellsOf 37 = 2 := by kernel_rfl
theorem cells_things : Tryz.prog.cellsOf 23 = 1 := by kernel_rfl
theorem cells_vals : Tryz.prog.cellsOf 31 = 1 := by kernel_rfl

def ValIs (x : ValR) (cs : List Value) (_ : DataW H) : Prop := cs = vCells x ∧ I64 x.kind ∧ I64 x.n
set_option maxRecDepth 10000 in
theorem open_val {fuel : Nat} {cs : List Value} {d : DataW H} {p : List MemPlace} (h : DataW.trod enc Tryz.prog W 0 (fun _ => true) true fuel 37 cs = some (d, p)) (hl : cs.length = 2) : ∃ x, ValIs x cs d := by
  obtain ⟨ys, n, _, hx, _, hyl, hf⟩ := DataW.trod_struct Tryz.underlying37 h
  simp only [Prod.mk.injEq] at hx
  obtain ⟨rfl, _⟩ := hx
  obtain ⟨c0, c1, rfl⟩ := list2 hl
  obtain ⟨y0, _, m0, h0⟩ := field_one hyl hf 0 _ rfl rfl cells_int c0 rfl
  obtain ⟨y1, _, m1, h1⟩ := field_one hyl hf 1 _ rfl rfl cells_int c1 rfl
  obtain ⟨a, rfl, wa⟩ := int_is Tryz.underlying3 h0
  obtain ⟨b, rfl, wb⟩ := int_is Tryz.underlying3 h1
  exact ⟨⟨a, b⟩, rfl, i64_bounds wa, i64_bounds wb⟩
def ThingIs (W : World) (x : ThingR × HA) (cs : List Value) (d : DataW H) : Prop := cs = thCells x.1 x.2 ∧ HasAt W x.1.has x.2 ∧ (Rows.uptoBulk d ≤ 1048576 → ThB x.1)
set_option maxRecDepth 10000 in
theorem open_thing {fuel : Nat} {cs : List Value} {d : DataW H} {p : List MemPlace} (h : DataW.trod enc Tryz.prog W 0 (fun _ => true) true fuel 33 cs = some (d, p)) (hl : cs.length = 2) : ∃ x, ThingIs W x cs d := by
  obtain ⟨ys, n, _, hx, _, hyl, hf⟩ := DataW.trod_struct Tryz.underlying33 h
  simp only [Prod.mk.injEq] at hx
  obtain ⟨rfl, _⟩ := hx
  obtain ⟨c0, c1, rfl⟩ := list2 hl
  obtain ⟨y0, _, m0, h0⟩ := field_one hyl hf 0 _ rfl rfl cells_str c0 rfl
  obtain ⟨y1, _, m1, h1⟩ := field_one hyl hf 1 _ rfl rfl cells_vals c1 rfl
  obtain ⟨ty, rfl, _, b0⟩ := string_is Tryz.underlying9 h0
  obtain ⟨a, cap, L, e1, hlc, _, hr⟩ := open_list Tryz.underlying31 cells_Value (by decide) (ValIs (H := H)) (fun fuel cs d p h hl => open_val h hl) (d := y1.1) (p := y1.2) h1
  simp only [List.cons.injEq, and_true] at e1
  subst e1
  obtain ⟨g1, g2, g3⟩ := rows_of_list (f := vCells) (fun _ _ _ hR => hR.1) hlc hr
  have k0 := bulk_agg m0
  have k1 := bulk_agg m1
  refine ⟨(⟨ty, L⟩, (a, cap)), rfl, g1, fun hb => ⟨?_, ?_, fun v hv => ?_⟩⟩
  · show ty.length ≤ _; omega
  · show L.length ≤ _; omega
  · obtain ⟨cs, d', ⟨_, i1, i2⟩, _⟩ := g3 v hv
    exact ⟨i1, i2⟩
set_option maxRecDepth 10000 in
theorem open_heapV {r : Reach} {base : Nat} {v : Value} {d : DataW H} {p : List MemPlace} (hv : Value.okWide Tryz.prog W r base 25 v) (h : DataW.Trod enc Tryz.prog W 0 (fun _ => true) true 25 v d p) :
    ∃ a cap X ps, v = .agg #[.slice a (X : List ThingR).length cap] ∧ ThingsAt W a cap X ps ∧ (Rows.uptoBulk d ≤ 1048576 → HpB X) := by
  obtain ⟨cs, rfl, hsz⟩ := okWide_struct Tryz.underlying25 hv
  obtain ⟨l⟩ := cs
  obtain ⟨fuel, hf⟩ := h
  have hf' : DataW.trod enc Tryz.prog W 0 (fun _ => true) true fuel 25 l = some (d, p) := hf
  have hl : l.length = 1 := by rw [← cells_Heap]; exact hsz
  obtain ⟨ys, n, _, hx, _, hyl, hff⟩ := DataW.trod_struct Tryz.underlying25 hf'
  simp only [Prod.mk.injEq] at hx
  obtain ⟨rfl, _⟩ := hx
  obtain ⟨c0, rfl⟩ : ∃ c, l = [c] := by
    match l, hl with
    | [c], _ => exact ⟨c, rfl⟩
  obtain ⟨y0, _, m0, h0⟩ := field_one hyl hff 0 _ rfl rfl cells_things c0 rfl
  obtain ⟨a, cap, L, e1, hlc, _, hr⟩ := open_list Tryz.underlying23 cells_Thing (by decide) (ThingIs (H := H) W) (fun fuel cs d p h hl => open_thing h hl) (d := y0.1) (p := y0.2) h0
  simp only [List.cons.injEq, and_true] at e1
  subst e1
  obtain ⟨h1, h2, h3⟩ := rows_of_list (f := fun mq => thCells mq.1 mq.2) (fun _ _ _ hR => hR.1) hlc hr
  have k0 := bulk_agg m0
  refine ⟨a, cap, L.map (·.1), L.map (·.2), by rw [List.length_map], ⟨by simp, ?_, ?_⟩, fun hb => ⟨by rw [List.length_map]; omega, fun x hx => ?_⟩⟩
  · rw [zip_things]; exact h1
  · intro k m q hm hq
    rw [List.getElem?_map] at hm hq
    cases hL : L[k]? with
    | none => rw [hL] at hm; cases hm
    | some mq =>
      rw [hL] at hm hq
      simp only [Option.map_some, Option.some.injEq] at hm hq
      subst hm hq
      obtain ⟨cs, d', ⟨_, hM, _⟩, _⟩ := h3 mq (List.mem_of_getElem? hL)
      exact hM
  · obtain ⟨mq, hmq, rfl⟩ := List.mem_map.1 hx
    obtain ⟨cs, d', ⟨_, _, hB⟩, hd⟩ := h3 mq hmq
    exact hB (by omega)
end
end Go.Proofs.YtanjggdmgeedlaaGreatDoor
