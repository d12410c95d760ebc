/-
  HandParts: the walk of the law.
-/
import Derived.Test.YtkobgmacoakelaaDoorHand8
import Derived.Test.YtkobgmacoakelaaDoorHandOpen
import Derived.Test.YtkobgmacoakelaaDoorFrame
namespace Go.Proofs.YtkobgmacoakelaaDoor
set_option linter.unusedVariables false
set_option linter.unusedSimpArgs false
open Go.RowKit Go.Shelf Go.Lib

theorem part_ok {h : Hd} (h0 : (typeF h).1 = 0) : ∀ s ∈ h.subs, (typeF s).1 = 0 := by
  intro s hs
  obtain ⟨h1, h2⟩ := typeF_zero.1 h0
  refine typeF_zero.2 ⟨?_, typed_subs h2 s hs⟩
  have := sizes_mem hs
  have := size_eq h
  omega

set_option maxRecDepth 100000 in
set_option maxHeartbeats 4000000 in
theorem handParts_go (h : Hd) (w : World) (H : HdOk w h) :
    Calls Tryd.prog 3 #[hdV h] w fun e w' => e = .returned (.bool true) ∧ Below w.heap.size w w' := by
  have HS := Lib.hid (fun w' (hb : Below w.heap.size w w') => size_calls H w' hb)
  have HSS := Lib.hid (fun (i : Nat) (s : Hd) (hi : h.subs[i]? = some s) w' (hb : Below w.heap.size w w') => size_calls (H.subs s (List.mem_of_getElem? hi)) w' hb)
  have HTS := Lib.hid (fun (i : Nat) (s : Hd) (hi : h.subs[i]? = some s) w' (hb : Below w.heap.size w w') => type_calls (H.subs s (List.mem_of_getElem? hi)) w' hb)
  have HRW := Lib.hid H.row
  have hll := H.len
  have HPO := Lib.hid (fun (h0 : (typeF h).1 = 0) (i : Nat) (s : Hd) (hi : h.subs[i]? = some s) => part_ok h0 s (List.mem_of_getElem? hi))
  have HSZ := Lib.hid (size_eq h)
  have hz := @typeF_zero h
  have hbox : BoxAt (w.alloc (.cells #[.int .i64 h.kind, .string ⟨⟨h.ty⟩⟩, .int .i64 h.a, .slice h.pa h.pos.length h.pc, .slice h.sa h.subs.length h.sc] 25)) w.heap.size h := blk_new _ _ _ _ rfl
  have hal : Below w.heap.size w (w.alloc (.cells #[.int .i64 h.kind, .string ⟨⟨h.ty⟩⟩, .int .i64 h.a, .slice h.pa h.pos.length h.pc, .slice h.sa h.subs.length h.sc] 25)) := bl_alloc (Below.refl _ _) _
  have HX := Lib.hid hbox
  have HAL := Lib.hid hal
  clear H hbox hal
  unfold hdV SizeRes at *
  unfold Exact at HTS
  go_enter Tryd.func3, Tryd.ntmps3
  go_wp2_with fail
  refine (named_true _).mono ?_
  rintro e w1 ⟨rfl, hb1⟩
  have HB1 := Lib.hid (bl_trans HAL.out hb1)
  have HX1 := Lib.hid (HX.out.below hb1)
  obtain ⟨e0, e1, e2, e3, e4⟩ := HX1.out.cells
  clear hb1 HX HAL
  by_cases h0 : (typeF h).1 = 0
  · have h30 := (hz.1 h0).1
    have HP := Lib.hid (HPO.out h0)
    have hsf : sizeF h = (h.size : Int) := by unfold sizeF; rw [if_neg (by simpa using h0)]
    rw [h0, errH_zero, hsf] at HS
    obtain ⟨N, hN⟩ : ∃ N, N = h.size := ⟨_, rfl⟩
    rw [← hN] at HS h30 HSZ
    clear hz h0 hN hsf HPO
    go_wp2_with fail
    refine (HS.out _ HB1.out).mono ?_
    rintro e w2 ⟨rfl, hb2⟩
    have HB2 := Lib.hid (bl_trans HB1.out hb2)
    have HX2 := Lib.hid (HX1.out.below hb2)
    clear hb2 e0 e1 e2 e3 e4 HX1
    go_wp2_with fail
    go_loopw [6, 7] (fun n i wr => ∃ j : Nat, j ≤ h.subs.length ∧ i = .int .i64 j ∧ n = .int .i64 ((1 + sizes (h.subs.take j) : Nat) : Int) ∧ Below w2.heap.size w2 wr) (fun _ i _ => h.subs.length - (RowKit.intOf i).toNat)
    case atStart => exact ⟨0, by omega, rfl, by simp [sizes], Below.refl _ _⟩
    case round =>
      obtain ⟨j, hj, rfl, rfl, hbr⟩ := hrel
      have HBR := Lib.hid (bl_trans HB2.out hbr)
      have HBR1 := Lib.hid hbr
      obtain ⟨e0, e1, e2, e3, e4⟩ := (HX2.out.below hbr).cells
      clear hbr
      by_cases hlj : j < h.subs.length
      · obtain ⟨x, hx⟩ : ∃ x, h.subs[j]? = some x := ⟨_, List.getElem?_eq_getElem hlj⟩
        obtain ⟨b, off, hsa, hlt, c0, c1, c2, c3, c4⟩ := subs_cells (HRW.out.below HBR.out) hx
        have hx0 := HP.out j x hx
        have hxs : sizeF x = (x.size : Int) := by unfold sizeF; rw [if_neg (by simpa using hx0)]
        have hx30 := (typeF_zero.1 hx0).1
        have HSX := Lib.hid (HSS.out j x hx)
        have HTX := Lib.hid (HTS.out j x hx)
        have HSU := Lib.hid (sizes_succ hx)
        rw [hx0, errH_zero, hxs] at HSX
        rw [hx0, errH_zero] at HTX
        have hsum : sizes (h.subs.take j) + x.size ≤ 100 := by
          have h1 := sizes_succ hx
          have h2 := sizes_take h.subs (j + 1)
          have h3 := HSZ.out
          omega
        rw [hsa] at e4
        have HSA := Lib.hid hsa
        obtain ⟨S, hS⟩ : ∃ S, S = sizes (h.subs.take j) := ⟨_, rfl⟩
        rw [← hS] at hsum ⊢
        have HSD := Lib.hid hS
        obtain ⟨z, hzz⟩ : ∃ z, z = x.size := ⟨_, rfl⟩
        rw [← hzz] at HSX hsum hx30
        have HZD := Lib.hid hzz
        clear hx hsa hx0 hxs hS hzz
        generalize (typeF x).2 = ty at *
        go_wp2_with fail
        refine (HSX.out _ HBR.out).mono ?_
        rintro e w3 ⟨rfl, hb3⟩
        have HB3 := Lib.hid (bl_trans HBR.out hb3)
        have HB31 := Lib.hid (bl_trans HBR1.out hb3)
        obtain ⟨f0, f1, f2, f3, f4⟩ := ((HX2.out.below HBR1.out).below hb3).cells
        have g0 := (hb3.cell (p := ⟨b, off + j * 5, none⟩) hlt).trans c0
        have g1 := (hb3.cell (p := ⟨b, off + j * 5 + 1, none⟩) hlt).trans c1
        have g2 := (hb3.cell (p := ⟨b, off + j * 5 + 2, none⟩) hlt).trans c2
        have g3 := (hb3.cell (p := ⟨b, off + j * 5 + 3, none⟩) hlt).trans c3
        have g4 := (hb3.cell (p := ⟨b, off + j * 5 + 4, none⟩) hlt).trans c4
        rw [HSA.out] at f4
        have hlt3 := Nat.lt_of_lt_of_le hlt (show wr.heap.size ≤ w3.heap.size from by have := hb3.size; exact this)
        clear hb3 c0 c1 c2 c3 c4 e0 e1 e2 e3 e4
        go_wp2_with fail
        refine (HTX.out _ HB3.out).mono ?_
        rintro e w4 ⟨rfl, hb4⟩
        have HB4 := Lib.hid (bl_trans HB31.out hb4)
        clear hb4
        go_wp2_with fail
        go_roundw
        case rel => exact ⟨j + 1, by omega, by go_num, by
          have h1 := HSU.out
          rw [← HSD.out, ← HZD.out] at h1
          rw [h1]
          go_num, HB4.out⟩
        case measure => simp [RowKit.intOf]; omega
      · obtain rfl : j = h.subs.length := by omega
        have HNN := Lib.hid (show (N : Int) = ((1 + sizes h.subs : Nat) : Int) by rw [HSZ.out])
        rw [List.take_length]
        have hq1 : (((1 + sizes h.subs : Nat) : Int)) ≤ 30 := by have := HSZ.out; omega
        rw [HNN.out] at *
        go_wp2_with fail
        go_ret
        exact ⟨by show Ending.returned (.bool (decide (1 + (sizes h.subs : Int) ≤ 30))) = _; rw [decide_eq_true (by omega)], HBR.out⟩
  · have hsf : sizeF h = 0 := by unfold sizeF; rw [if_pos h0]
    rw [hsf, errH_pos h0] at HS
    generalize (typeF h).1 = z at *
    clear hz hsf HPO HSZ HSS HTS
    go_wp2_with fail
    refine (HS.out _ HB1.out).mono ?_
    rintro e w2 ⟨rfl, hb2⟩
    have HB2 := Lib.hid (bl_trans HB1.out hb2)
    clear hb2
    go_wp2_with fail
    go_ret
    exact ⟨rfl, HB2.out⟩

set_option maxRecDepth 100000 in
theorem handParts.walk {H : Type} {enc : TypeId × Value → H} {W : World} {base : Nat}
    {v0 : Value} {d0 : DataW H} {p0 : List MemPlace} (hv0 : Value.okWide Tryd.prog W .any base 25 v0) (h0 : DataW.Trod enc Tryd.prog W 0 (fun _ => true) true 25 v0 d0 p0)
    (W' : World) (hW : W' = W) (hL : laidMetH Tryd.prog Rows.handPartsUptoRow.laid W) {S : Prop} (_ : S) (hbulk : Rows.uptoBulkAll [d0] ≤ 1048576) :
    Calls Tryd.prog 3 #[v0] W' fun e w' => e = .returned (.bool true) ∧ Below W'.heap.size W' w' := by
  subst hW
  obtain ⟨h, rfl, hx⟩ := open_hdV hv0 h0
  simp only [Rows.uptoBulkAll] at hbulk
  exact handParts_go h W' (hx (by omega))
end Go.Proofs.YtkobgmacoakelaaDoor
