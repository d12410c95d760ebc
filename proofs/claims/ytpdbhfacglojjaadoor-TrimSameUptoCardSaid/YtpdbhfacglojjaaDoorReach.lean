/-
  The walk of flow.Reach.
-/
import Derived.Test.YtpdbhfacglojjaaDoorFrom
namespace Go.Proofs.YtpdbhfacglojjaaDoor
set_option linter.unusedVariables false
set_option linter.unusedSimpArgs false
open Go.RowKit Go.Shelf Go.Lib

open Classical in
noncomputable def reachUp (l : List InsR) (k : Nat) : List Nat := (List.range k).filter (fun i => decide (Rch l [0] i))
theorem reachUp_all (l : List InsR) : reachUp l l.length = reachL l := rfl
theorem reachUp_yes {l : List InsR} {k : Nat} (h : Rch l [0] k) : reachUp l (k + 1) = reachUp l k ++ [k] := by
  unfold reachUp
  rw [List.range_succ, List.filter_append]
  simp [h]
theorem reachUp_no {l : List InsR} {k : Nat} (h : ¬ Rch l [0] k) : reachUp l (k + 1) = reachUp l k := by
  unfold reachUp
  rw [List.range_succ, List.filter_append]
  simp [h]
theorem reachUp_len (l : List InsR) (k : Nat) : (reachUp l k).length ≤ k := by
  unfold reachUp
  have := List.length_filter_le (fun i => Classical.propDecidable (Rch l [0] i) |>.decide) (List.range k)
  rw [List.length_range] at this
  exact this

theorem reach_bad (l : List InsR) (a : Option Addr) (cap : Nat) (w : World) (hC : CodeAt w a cap l) (hF : FormsAt w) (hT : ∀ x ∈ l, x.ty.length ≤ 8388608) (h : flowErr l ≠ 0) :
    Calls Tryd.prog 16 #[.slice a l.length cap] w fun e w' => e = .returned (.tuple #[.slice none 0 0, errV (flowErr l)]) ∧ Below w.heap.size w w' := by
  have HK := Lib.hid (flow_bad l a cap w hC hF hT h)
  generalize flowErr l = n at HK ⊢
  clear hC hF hT h
  go_enter Tryd.func16, Tryd.ntmps16
  go_wp2_with fail
  refine HK.out.mono ?_
  rintro e w1 ⟨rfl, hb1⟩
  go_wp2_with fail
  go_ret2
  exact ⟨rfl, hb1⟩

def ReachRes (l : List InsR) (w : World) (e : Ending) (w' : World) : Prop :=
  ∃ v, e = .returned (.tuple #[v, .nilIface]) ∧ w'.ownsRow w.heap.size 3 1 v (reachL l).length ((reachL l).map intV) ∧ Below w.heap.size w w'

set_option maxRecDepth 100000 in
set_option maxHeartbeats 1000000 in
theorem reach_ok (l : List InsR) (a : Option Addr) (cap : Nat) (w : World) (hC : CodeAt w a cap l) (hF : FormsAt w) (hT : ∀ x ∈ l, x.ty.length ≤ 8388608) (h : FlowOk l) :
    Calls Tryd.prog 16 #[.slice a l.length cap] w fun e w' => ReachRes l w e w' := by
  have hlen := h.len
  have hpos : 0 < l.length := by
    have h1 := h.last
    cases l with
    | nil => simp [endOk] at h1
    | cons x r => simp
  have HK := Lib.hid (flow_ok l a cap w hC hF hT h)
  have HC := Lib.hid hC
  have HL := Lib.hid h
  obtain ⟨B, hB⟩ : ∃ B, B = w.heap.size := ⟨_, rfl⟩
  have HB := Lib.hid hB
  clear hC hF hT h hB
  go_enter Tryd.func16, Tryd.ntmps16
  go_wp2_with fail
  refine HK.out.mono ?_
  rintro e w1 ⟨rfl, hb1⟩
  have HB1 := Lib.hid hb1
  have hc1 := Lib.hid (HC.out.below hb1)
  clear hb1
  go_wp2_with fail
  have hv : ValsAt (w1.alloc (.cells #[.int .i64 0] 3)) (some ⟨w1.heap.size, 0, none⟩) 1 [intV 0] := by
    refine ⟨by simp, Or.inr ⟨_, 0, rfl, by simp, fun j x hx => ?_⟩⟩
    rw [World.cell?_alloc_new, Nat.zero_add]
    cases j with
    | zero => simp at hx; rw [← hx]; rfl
    | succ j => simp at hx
  refine (from_calls l a cap [0] (some ⟨w1.heap.size, 0, none⟩) 1 _ (hc1.out.below ((Below.refl _ _).alloc (Nat.le_refl _) _)) HL.out (by simpa using hpos) (by simp) hv (by simp)).mono ?_
  rintro e w2 ⟨vs, seen, rfl, hos, hsl, hsi, hb2⟩
  have hb := bl_trans HB1.out (new_below hb2)
  have HB2 := Lib.hid hb
  have hsB : B ≤ w2.heap.size := by rw [HB.out]; exact hb.size
  have HSI := Lib.hid hsi
  obtain ⟨sa, sc, rfl, hsx, hsv⟩ := vals_of_own hos
  have HSV := Lib.hid hsv
  clear hos hb2 hb hsv hsi hv hsx
  go_wp2_with fail
  go_loopw [5, 17] (fun v i wr => ∃ (k : Nat) (A : Option Addr) (C : Nat), k ≤ l.length ∧ i = .int .i64 k ∧ v = .slice A (reachUp l k).length C ∧ wr.ownsRow w2.heap.size 3 1 (.slice A (reachUp l k).length C) (reachUp l k).length ((reachUp l k).map intV) ∧ Below w2.heap.size w2 wr) (fun _ i _ => l.length - (RowKit.intOf i).toNat)
  case atStart => exact ⟨0, none, 0, by omega, rfl, rfl, World.ownsRow_nil _ _ _ _, Below.refl _ _⟩
  case round =>
    obtain ⟨k, A, C, hk, rfl, rfl, ho, hb2w⟩ := hrel
    have HO := Lib.hid ho
    have HB2W := Lib.hid hb2w
    have hszr : w2.heap.size ≤ wr.heap.size := hb2w.size
    have hrl := reachUp_len l k
    have hcap := own_cap ho
    clear ho hb2w
    by_cases hlk : k < l.length
    · obtain ⟨sb, hsb⟩ : ∃ sb, seen[k]? = some sb := ⟨_, List.getElem?_eq_getElem (by omega)⟩
      obtain ⟨_, h0 | ⟨b, off, rfl, hbl, hcs⟩⟩ := HSV.out.below HB2W.out
      · rw [List.map_eq_nil_iff] at h0; rw [h0] at hsl; simp at hsl; omega
      have hcc : wr.cell? ⟨b, off + k, none⟩ = some (.bool sb) := hcs k _ (by rw [List.getElem?_map, hsb]; rfl)
      clear hcs
      cases sb with
      | true =>
        have hr : Rch l [0] k := (HSI.out k).1 hsb
        have HR := Lib.hid (reachUp_yes hr)
        clear hr hsb
        go_wp2_with (at_builtin; refine wpList_append_one rowInt rfl _ _ rfl w2.heap.size _ (reachUp l k).length ((reachUp l k).map intV) rfl ?c0 [intV k] rfl ?c1 _ rfl ?cg ?c2 ?c3 ?c4 ?_)
        case c0 => exact HO.out
        case c1 => exact intV_one [k]
        case cg => rfl
        case c2 => omega
        case c3 => omega
        case c4 => exact hszr
        intro v1 w3 ho1 hg1
        have HN := Lib.hid (HB2W.out.trans (grown_below hszr HO.out hg1))
        have ho2 : w3.ownsRow w2.heap.size 3 1 v1 (reachUp l (k + 1)).length ((reachUp l (k + 1)).map intV) := by rw [HR.out, List.length_append, List.map_append]; exact ho1
        obtain ⟨A4, C4, rfl, hx1, hx2⟩ := vals_of_own ho2
        have HO2 := Lib.hid ho2
        clear hx1 hx2 ho1 ho2 hg1
        go_wp2_with fail
        go_roundw
        case rel => exact ⟨k + 1, A4, C4, by omega, by go_num, rfl, HO2.out, HN.out⟩
        case measure => simp [RowKit.intOf]; omega
      | false =>
        have hr : ¬ Rch l [0] k := fun h => by
          have := (HSI.out k).2 h
          rw [hsb] at this; cases this
        have HR := Lib.hid (reachUp_no hr)
        clear hr hsb
        go_wp2_with fail
        go_roundw
        case rel => exact ⟨k + 1, A, C, by omega, by go_num, by rw [HR.out], by rw [HR.out]; exact HO.out, HB2W.out⟩
        case measure => simp [RowKit.intOf]; omega
    · obtain rfl : k = l.length := by omega
      go_wp2_with fail
      go_ret2
      have h := HB.out
      subst h
      exact ⟨_, rfl, by rw [← reachUp_all]; exact HO.out.mono hsB, bl_trans HB2.out HB2W.out⟩
end Go.Proofs.YtpdbhfacglojjaaDoor
