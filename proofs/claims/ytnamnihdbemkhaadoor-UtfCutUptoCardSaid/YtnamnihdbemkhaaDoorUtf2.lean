/-
  The walks of utf.unit at encodings of two and three bytes, and of utf.Decode.
-/
import Derived.Test.YtnamnihdbemkhaaDoorUtf
namespace Go.Proofs.YtnamnihdbemkhaaDoor
set_option linter.unusedVariables false
set_option linter.unusedSimpArgs false
open Go.RowKit Go.Shelf Go.Lib

set_option maxRecDepth 100000 in
set_option maxHeartbeats 4000000 in
theorem unit_two (bs : List Int) (b off cap : Nat) (w : World) (b0 : Int) (hb0 : bs.getD 0 0 = b0) (h0 : 192 ≤ b0) (h1 : b0 < 224) (hl : 2 ≤ bs.length) (hm : bs.length ≤ 1152921504606846976) (hby : ∀ x ∈ bs, 0 ≤ x ∧ x < 256) (hcap : bs.length ≤ cap) (hlt : b < w.heap.size)
    (hc : ∀ i, i < bs.length → w.cell? ⟨b, off + i, none⟩ = some (.int .u8 (bs.getD i 0))) :
    Calls Tryd.prog 37 #[.slice (some ⟨b, off, none⟩) bs.length cap] w fun e w' => UnitRes bs e ∧ Below w.heap.size w w' := by
  have hc0 := hc 0 (by omega)
  rw [hb0, Nat.add_zero] at hc0
  have d1 : ((b0 / 32) == 6) = true := by rw [beq_iff_eq]; omega
  have HC := Lib.hid hc
  have HB := Lib.hid hby
  have H0 := Lib.hid hb0
  clear hc hby hb0
  go_enter Tryd.func37, Tryd.ntmps37
  go_wp2_with fail
  go_region
  go_wp2_with fail
  have hbw : Below w.heap.size w w.drew := (Below.refl _ _).drew
  have hlt0 : b < w.drew.heap.size := hlt
  have hc1 : ∀ i, i < bs.length → w.drew.cell? ⟨b, off + i, none⟩ = some (.int .u8 (bs.getD i 0)) := fun i hi => by rw [World.cell?_drew]; exact HC.out i hi
  generalize w.drew = w0 at hbw hlt0 hc1 ⊢
  have HBW := Lib.hid hbw
  have HC0 := Lib.hid hc1
  clear hbw hc1 hc0 HC
  go_loop [5, 42] (fun a i => (∃ u : Int, 0 ≤ u ∧ u < 65536 ∧ a = .int .u16 u) ∧ ∃ k : Nat, k ≤ 1 ∧ i = .int .i64 k) (fun _ i => 2 - (RowKit.intOf i).toNat)
  case atStart => exact ⟨slot_u16 _ _ _, 0, by omega, rfl⟩
  case round =>
    obtain ⟨⟨u, hu0, hu1, rfl⟩, k, hk, rfl⟩ := hrel
    by_cases hlt' : k < 1
    · have hck := HC0.out (k + 1) (by omega)
      have e : off + (k + 1) = off + 1 + k := by omega
      rw [e] at hck
      have hx := HB.out (bs.getD (k + 1) 0) (by rw [List.getD, List.getElem?_eq_getElem (by omega)]; exact List.getElem_mem _)
      have hx0 := hx.1
      have hx1 := hx.2
      clear hx e
      generalize bs.getD (k + 1) 0 = x at hck hx0 hx1
      go_wp2_with fail
      go_round
      case rel => exact ⟨slot_u16 _ _ _, k + 1, by omega, by go_num⟩
      case measure => simp [RowKit.intOf]; omega
    · obtain rfl : k = 1 := by omega
      clear hlt'
      go_wp2_with fail
      have hv0 : ∀ (W : World), Below w0.heap.size w0 W → ∀ c, (convert 27 9 (.slice (some ⟨b, off, none⟩) 2 c)).run Tryd.prog W = .ok (.string (strOfNums (bs.take 2))) W := by
        intro W hW c
        refine conv_row W b off 2 c (bs.take 2) (by simp; omega) (fun i hi => ?_)
        rw [hW.cell (p := ⟨b, off + i, none⟩) hlt0, getD_take _ _ _ hi]
        exact HC0.out i (by omega)
      have hq1 := hv0 w0.drew (Below.refl _ _).drew
      have hq2 := hv0 (w0.alloc (.cells #[.int .u16 u] 34)).drew ((Below.refl _ _).alloc (Nat.le_refl _) _).drew
      have HV := Lib.hid hv0
      clear hv0
      have hcmp := cmp_any u bs 2 HB.out hu0 hu1
      have hen := encode_one u w0 hu0 hu1
      have HEN := Lib.hid hen
      clear hen
      rcases hcmp with ⟨hq, he⟩ | hq
      · have HE := Lib.hid he
        clear he
        go_region_with (go_at_call 16; refine HEN.out.mono ?_; rintro e w1 ⟨v, rfl, hrel⟩; have hq3 := HV.out w1 hrel.1; have hq4 := hrel.2; have HRL := Lib.hid hrel.1; clear hrel)
        all_goals
          go_wp2_with fail
          go_ret2
          exact ⟨⟨_, _, rfl, Or.inr ⟨by omega, by omega, by omega, by omega, by omega, HE.out⟩⟩, bl_trans HBW.out HRL.out⟩
      · go_region_with (go_at_call 16; refine HEN.out.mono ?_; rintro e w1 ⟨v, rfl, hrel⟩; have hq3 := HV.out w1 hrel.1; have hq4 := hrel.2; have HRL := Lib.hid hrel.1; clear hrel)
        all_goals
          go_wp2_with fail
          go_ret2
          exact ⟨⟨_, _, rfl, Or.inl rfl⟩, bl_trans HBW.out HRL.out⟩
set_option maxRecDepth 100000 in
set_option maxHeartbeats 4000000 in
theorem unit_three (bs : List Int) (b off cap : Nat) (w : World) (b0 : Int) (hb0 : bs.getD 0 0 = b0) (h0 : 224 ≤ b0) (h1 : b0 < 240) (hl : 3 ≤ bs.length) (hm : bs.length ≤ 1152921504606846976) (hby : ∀ x ∈ bs, 0 ≤ x ∧ x < 256) (hcap : bs.length ≤ cap) (hlt : b < w.heap.size)
    (hc : ∀ i, i < bs.length → w.cell? ⟨b, off + i, none⟩ = some (.int .u8 (bs.getD i 0))) :
    Calls Tryd.prog 37 #[.slice (some ⟨b, off, none⟩) bs.length cap] w fun e w' => UnitRes bs e ∧ Below w.heap.size w w' := by
  have hc0 := hc 0 (by omega)
  rw [hb0, Nat.add_zero] at hc0
  have d1 : ((b0 / 32) == 6) = false := by rw [beq_eq_false_iff_ne]; omega
  have d2 : ((b0 / 16) == 14) = true := by rw [beq_iff_eq]; omega
  have HC := Lib.hid hc
  have HB := Lib.hid hby
  have H0 := Lib.hid hb0
  clear hc hby hb0
  go_enter Tryd.func37, Tryd.ntmps37
  go_wp2_with fail
  go_region
  go_wp2_with fail
  have hbw : Below w.heap.size w w.drew := (Below.refl _ _).drew
  have hlt0 : b < w.drew.heap.size := hlt
  have hc1 : ∀ i, i < bs.length → w.drew.cell? ⟨b, off + i, none⟩ = some (.int .u8 (bs.getD i 0)) := fun i hi => by rw [World.cell?_drew]; exact HC.out i hi
  generalize w.drew = w0 at hbw hlt0 hc1 ⊢
  have HBW := Lib.hid hbw
  have HC0 := Lib.hid hc1
  clear hbw hc1 hc0 HC
  go_loop [5, 42] (fun a i => (∃ u : Int, 0 ≤ u ∧ u < 65536 ∧ a = .int .u16 u) ∧ ∃ k : Nat, k ≤ 2 ∧ i = .int .i64 k) (fun _ i => 3 - (RowKit.intOf i).toNat)
  case atStart => exact ⟨slot_u16 _ _ _, 0, by omega, rfl⟩
  case round =>
    obtain ⟨⟨u, hu0, hu1, rfl⟩, k, hk, rfl⟩ := hrel
    by_cases hlt' : k < 2
    · have hck := HC0.out (k + 1) (by omega)
      have e : off + (k + 1) = off + 1 + k := by omega
      rw [e] at hck
      have hx := HB.out (bs.getD (k + 1) 0) (by rw [List.getD, List.getElem?_eq_getElem (by omega)]; exact List.getElem_mem _)
      have hx0 := hx.1
      have hx1 := hx.2
      clear hx e
      generalize bs.getD (k + 1) 0 = x at hck hx0 hx1
      go_wp2_with fail
      go_round
      case rel => exact ⟨slot_u16 _ _ _, k + 1, by omega, by go_num⟩
      case measure => simp [RowKit.intOf]; omega
    · obtain rfl : k = 2 := by omega
      clear hlt'
      go_wp2_with fail
      have hv0 : ∀ (W : World), Below w0.heap.size w0 W → ∀ c, (convert 27 9 (.slice (some ⟨b, off, none⟩) 3 c)).run Tryd.prog W = .ok (.string (strOfNums (bs.take 3))) W := by
        intro W hW c
        refine conv_row W b off 3 c (bs.take 3) (by simp; omega) (fun i hi => ?_)
        rw [hW.cell (p := ⟨b, off + i, none⟩) hlt0, getD_take _ _ _ hi]
        exact HC0.out i (by omega)
      have hq1 := hv0 w0.drew (Below.refl _ _).drew
      have hq2 := hv0 (w0.alloc (.cells #[.int .u16 u] 34)).drew ((Below.refl _ _).alloc (Nat.le_refl _) _).drew
      have HV := Lib.hid hv0
      clear hv0
      have hcmp := cmp_any u bs 3 HB.out hu0 hu1
      have hen := encode_one u w0 hu0 hu1
      have HEN := Lib.hid hen
      clear hen
      rcases hcmp with ⟨hq, he⟩ | hq
      · have HE := Lib.hid he
        clear he
        go_region_with (go_at_call 16; refine HEN.out.mono ?_; rintro e w1 ⟨v, rfl, hrel⟩; have hq3 := HV.out w1 hrel.1; have hq4 := hrel.2; have HRL := Lib.hid hrel.1; clear hrel)
        all_goals
          go_wp2_with fail
          go_ret2
          exact ⟨⟨_, _, rfl, Or.inr ⟨by omega, by omega, by omega, by omega, by omega, HE.out⟩⟩, bl_trans HBW.out HRL.out⟩
      · go_region_with (go_at_call 16; refine HEN.out.mono ?_; rintro e w1 ⟨v, rfl, hrel⟩; have hq3 := HV.out w1 hrel.1; have hq4 := hrel.2; have HRL := Lib.hid hrel.1; clear hrel)
        all_goals
          go_wp2_with fail
          go_ret2
          exact ⟨⟨_, _, rfl, Or.inl rfl⟩, bl_trans HBW.out HRL.out⟩
end Go.Proofs.YtnamnihdbemkhaaDoor
