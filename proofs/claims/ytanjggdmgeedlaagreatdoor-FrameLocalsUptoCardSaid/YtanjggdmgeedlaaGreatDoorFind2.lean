/-
  The walk of find.MethodOf.
-/
import Derived.Test.YtanjggdmgeedlaaGreatDoorFind1
import Derived.Test.YtanjggdmgeedlaaGreatDoorPLine2
import Derived.StillTailTactics
namespace Go.Proofs.YtanjggdmgeedlaaGreatDoor
set_option linter.unusedVariables false
set_option linter.unusedSimpArgs false
open Go.RowKit Go.Shelf Go.Lib

theorem methOf_line {L : List ClassR} {c n k : Nm} {r : Nm × MethR} (h : (line L c).findSome? (hitL L n k) = some r) : methOf L c n k = some r := by unfold methOf; rw [h]; rfl
theorem methOf_f {L : List ClassR} {c n k : Nm} {r : Nm × MethR} (h0 : (line L c).findSome? (hitL L n k) = none) (h : (every L c).findSome? (hitF L n k false) = some r) : methOf L c n k = some r := by unfold methOf; rw [h0, h]; rfl
theorem methOf_t {L : List ClassR} {c n k : Nm} {r : Nm × MethR} (h0 : (line L c).findSome? (hitL L n k) = none) (h1 : (every L c).findSome? (hitF L n k false) = none) (h : (every L c).findSome? (hitF L n k true) = some r) : methOf L c n k = some r := by unfold methOf; rw [h0, h1, h]; rfl
theorem methOf_none {L : List ClassR} {c n k : Nm} (h0 : (line L c).findSome? (hitL L n k) = none) (h1 : (every L c).findSome? (hitF L n k false) = none) (h : (every L c).findSome? (hitF L n k true) = none) : methOf L c n k = none := by unfold methOf; rw [h0, h1, h]; rfl

theorem own_at {L : List CP} (n k x : Nm) : ownAt (CL L) n k x = ownM (curP L x).1 n k := by
  unfold ownAt
  rw [cur_is]
  cases look (CL L) x with
  | none => rfl
  | some c => rfl
theorem face_at {L : List CP} (x : Nm) : faceAt (CL L) x = (curP L x).1.face := by
  unfold faceAt
  rw [cur_is]
  cases look (CL L) x with
  | none => rfl
  | some c => rfl

/-- what MethodOf gives -/
def MofRes (L : List ClassR) (c n k : Nm) (w : World) (e : Ending) (w' : World) : Prop :=
  Below w.heap.size w w' ∧ ((methOf L c n k = none ∧ e = .returned (.tuple #[.string ⟨#[]⟩, methV zeroMR nilM, .bool false])) ∨
    ∃ x m p, methOf L c n k = some (x, m) ∧ MethAt w m p ∧ e = .returned (.tuple #[.string ⟨⟨x⟩⟩, methV m p, .bool true]))

/-- the state of the search over Every: which of the two rounds -/
def Past (L : List ClassR) (c n k : Nm) (i : Nat) : Prop := (line L c).findSome? (hitL L n k) = none ∧ (1 ≤ i → (every L c).findSome? (hitF L n k false) = none) ∧ (2 ≤ i → (every L c).findSome? (hitF L n k true) = none)
theorem past_hit {L : List ClassR} {c n k : Nm} {i : Nat} {ab : Bool} {r : Nm × MethR} (h : Past L c n k i) (hab : (i = 0 ∧ ab = false) ∨ (i = 1 ∧ ab = true)) (hr : (every L c).findSome? (hitF L n k ab) = some r) : methOf L c n k = some r := by
  rcases hab with ⟨rfl, rfl⟩ | ⟨rfl, rfl⟩
  · exact methOf_f h.1 hr
  · exact methOf_t h.1 (h.2.1 (by omega)) hr
theorem past_next {L : List ClassR} {c n k : Nm} {i : Nat} {ab : Bool} (h : Past L c n k i) (hab : (i = 0 ∧ ab = false) ∨ (i = 1 ∧ ab = true)) (hr : (every L c).findSome? (hitF L n k ab) = none) : Past L c n k (i + 1) := by
  rcases hab with ⟨rfl, rfl⟩ | ⟨rfl, rfl⟩
  · exact ⟨h.1, fun _ => hr, fun h => by omega⟩
  · exact ⟨h.1, fun _ => h.2.1 (by omega), fun _ => hr⟩
theorem hitL_none {L : List ClassR} {n k x : Nm} (h : ownAt L n k x = none) : hitL L n k x = none := by unfold hitL; rw [h]; rfl
theorem hitL_some {L : List ClassR} {n k x : Nm} {m : MethR} (h : ownAt L n k x = some m) : hitL L n k x = some (x, m) := by unfold hitL; rw [h]; rfl
theorem hitF_none {L : List ClassR} {n k x : Nm} {ab : Bool} (h : ownAt L n k x = none) : hitF L n k ab x = none := by unfold hitF; rw [h]; rfl
theorem hitF_some {L : List ClassR} {n k x : Nm} {ab : Bool} {m : MethR} (h : ownAt L n k x = some m) (h1 : faceAt L x = true) (h2 : (m.abst == ab) = true) : hitF L n k ab x = some (x, m) := by unfold hitF; rw [h]; simp only [Option.elim, h1, h2]; rfl
theorem hitF_face {L : List ClassR} {n k x : Nm} {ab : Bool} (h1 : faceAt L x = false) : hitF L n k ab x = none := by
  unfold hitF
  cases ownAt L n k x with
  | none => rfl
  | some m => simp [Option.elim, h1]
theorem hitF_ab {L : List ClassR} {n k x : Nm} {ab : Bool} {m : MethR} (h : ownAt L n k x = some m) (h2 : (m.abst == ab) = false) : hitF L n k ab x = none := by unfold hitF; rw [h]; simp only [Option.elim, h2, Bool.and_false, Bool.false_eq_true, if_false]
theorem line_le {l : List ClassR} (hg : Good l) {c x : Nm} (hc : c.length ≤ 1048576) (h : x ∈ line (wl l) c) : x.length ≤ 1048576 := by
  rcases rc_names hg.join ((line_rs hg _ _).1 h).rc with e | e
  · rw [e]; exact hc
  · have := good_names20 hg e; omega
theorem every_le {l : List ClassR} (hg : Good l) {c x : Nm} (hc : c.length ≤ 1048576) (h : x ∈ every (wl l) c) : x.length ≤ 1048576 := by
  rcases rc_names hg.join ((good_every hg _ _).1 h) with e | e
  · rw [e]; exact hc
  · have := good_names20 hg e; omega
theorem every_le50 {l : List ClassR} (hg : Good l) (n : Nm) : (every (wl l) n).length ≤ 50 := by
  have := (every_sch (U := n :: names l) (by have := good_names hg; simp; omega) (closed_names hg.join n) (by simp : n ∈ n :: names l)).len
  unfold every
  rw [List.length_mergeSort]
  have h2 := good_names hg
  simp at this
  omega

set_option maxRecDepth 100000 in
set_option maxHeartbeats 4000000 in
theorem mof_calls (l : List ClassR) (L : List CP) (b : Nat) (c n k : Nm) (w : World) (hW : WOk w b l L) (hc : c.length ≤ 1048576) :
    Calls Tryz.prog 181 #[.map (some b), .string ⟨⟨c⟩⟩, .string ⟨⟨n⟩⟩, .string ⟨⟨k⟩⟩] w (MofRes (wl l) c n k w) := by
  have HW := Lib.hid hW
  have hcl := Lib.hid hW.cl
  have hg := Lib.hid hW.good
  have hml : (1048576 : Nat) ≤ maxLen := by unfold maxLen; omega
  have hl13 := line_len13 hg.out c
  have hl50 := every_le50 hg.out c
  have HLE := Lib.hid (fun x (h : x ∈ line (wl l) c) => line_le hg.out hc h)
  have HEE := Lib.hid (fun x (h : x ∈ every (wl l) c) => every_le hg.out hc h)
  clear hW
  go_enter Tryz.func181, Tryz.ntmps181
  go_wp2_with fail
  refine (line_w (HW.out.below ((Below.refl _ _).alloc (Nat.le_refl _) _)) c hc).mono ?_
  rintro e w2 ⟨⟨v, rfl, ho⟩, hb2⟩
  obtain ⟨A2, C2, rfl, hr2⟩ := srow_of_own ho
  have HR2 := Lib.hid hr2
  have HB2 := Lib.hid (bl_trans ((Below.refl _ _).alloc (Nat.le_refl _) _) hb2)
  have HW2 := Lib.hid (HW.out.below HB2.out)
  have HZ2 := Lib.hid (show Blk w2 w.heap.size 63 (mArr zeroMR nilM) from (blk_new w w.heap.size 63 (mArr zeroMR nilM) rfl).below hb2)
  have hs2 := HB2.out.size
  have hz2 := HZ2.out.lt
  clear ho hr2 hb2
  generalize hln : line (wl l) c = ln at *
  have HLN := Lib.hid hln
  clear hln
  go_wp2_with fail
  go_loopw [25] (fun i wr => ∃ j : Nat, j ≤ ln.length ∧ i = .int .i64 j ∧ Below w2.heap.size w2 wr ∧ Hid (∀ x ∈ ln.take j, hitL (wl l) n k x = none)) (fun i _ => ln.length - (RowKit.intOf i).toNat)
  case atStart => exact ⟨0, by omega, rfl, Below.refl _ _, Lib.hid (by simp)⟩
  case round =>
    obtain ⟨j, hj, rfl, hb, HA⟩ := hrel
    have HB := Lib.hid hb
    have hsz := hb.size
    by_cases hlk : j < ln.length
    · obtain ⟨x, hx⟩ : ∃ x, ln[j]? = some x := ⟨_, List.getElem?_eq_getElem hlk⟩
      obtain ⟨b1, off, rfl, hlt, c0⟩ := strs_cell (HR2.out.below hb) hx
      have hxl := HLE.out x (List.mem_of_getElem? hx)
      have hlkx := cur_look (n := x) (HW2.out.below hb).at_ (Nat.le_trans hxl hml)
      have hmb := (cur_bounds HW.out x).2.2.2.2
      have HX := Lib.hid hx
      have HCA := Lib.hid (cur_at (HW2.out.below hb).at_ x)
      have HOA := Lib.hid (own_at (L := L) n k x)
      rw [hcl.out] at HOA
      clear hb hx
      go_wp2_with fail
      refine (own_calls _ _ n k _ HCA.out (by omega)).mono ?_
      rintro e w4 ⟨hb4, ⟨hn, rfl⟩ | ⟨i0, m, q, hi0, hq, hm, rfl⟩⟩
      · have HB4 := Lib.hid (HB.out.trans (hb4.mono hsz))
        have hs4 := HB4.out.size
        have HA2 := Lib.hid (take_all_succ (P := fun x => hitL (wl l) n k x = none) HA.out HX.out (hitL_none (by rw [HOA.out]; exact hn)))
        clear hb4 hn hlkx
        unfold methV
        go_wp2_with fail
        go_roundw
        case rel => exact ⟨j + 1, by omega, by go_num, HB4.out.alloc hs4 _, HA2⟩
        case measure => simp [RowKit.intOf]; omega
      · have HM := Lib.hid (methOf_line (by rw [HLN.out]; exact some_at HA.out HX.out (hitL_some (by rw [HOA.out]; exact hm))))
        have HB4 := Lib.hid (HB.out.trans (hb4.mono hsz))
        have HZ4 := Lib.hid (HZ2.out.below HB4.out)
        have HQ := Lib.hid (show MethAt w m q from (cur_at HW.out.at_ x).2.2.2.2 i0 m q hi0 hq)
        have hs4 := HB4.out.size
        clear hb4 hm hq hlkx hi0
        unfold methV
        go_wp2_with fail
        refine wp_tail 3 (by kernel_rfl) (by kernel_rfl) ?_
        simp only [List.take_succ_cons, List.take_zero, List.drop_succ_cons, List.drop_zero]
        repeat still_step
        refine wpStill_nil ?_
        go_wp2_with (refine wpList_store_blk (x := .tmp 9) (y := .tmp 40) (ty := 63) (g := w.heap.size) (cells := mArr m q) (by rfl) (by rfl) (by rfl) (by rfl) (HZ4.out.below ((Below.refl _ _).alloc (Nat.le_refl _) _)).drew info_meth rfl (mArr_one m q) ?_)
        intro W2 hbk hgr
        obtain ⟨d0, d1, d2, d3, d4, d5, d6, d7⟩ := mblk_cells hbk
        have HB5 := Lib.hid (below_grown (HB2.out.trans ((HB4.out.alloc hs4 _).drew.mono hs2)) hgr (Nat.le_refl _) (by simp; omega))
        clear hbk hgr
        go_wp2_with fail
        exact bodyPost_ret (v := .tuple #[.string ⟨⟨x⟩⟩, methV m q, .bool true]) (by simp [results, Tryz.results181, go_sem, d0, d1, d2, d3, d4, d5, d6, d7, methV]) rfl ⟨HB5.out, Or.inr ⟨x, m, q, HM.out, HQ.out, rfl⟩⟩
    · obtain rfl : j = ln.length := by omega
      have HP0 := Lib.hid (show Past (wl l) c n k 0 from ⟨by rw [HLN.out]; exact none_all (by have := HA.out; rwa [List.take_length] at this), fun h => by omega, fun h => by omega⟩)
      clear hb HA
      obtain ⟨wa, hwa⟩ : ∃ wa, wa = wr := ⟨wr, rfl⟩
      subst hwa
      have HBB := Lib.hid (blk_new wa wa.heap.size 4 #[.bool false, .bool true] rfl)
      have HB3 := Lib.hid (HB.out.alloc hsz (.cells #[.bool false, .bool true] 4))
      have hw3 : (wa.alloc (.cells #[.bool false, .bool true] 4)).heap.size = wa.heap.size + 1 := by simp
      have HW3S := Lib.hid hw3
      clear hw3
      go_wp2_with fail
      go_loopw [44] (fun i wq => ∃ t : Nat, t ≤ 2 ∧ i = .int .i64 t ∧ Below (wa.alloc (.cells #[.bool false, .bool true] 4)).heap.size (wa.alloc (.cells #[.bool false, .bool true] 4)) wq ∧ Hid (Past (wl l) c n k t)) (fun i _ => 2 - (RowKit.intOf i).toNat)
      case atStart => exact ⟨0, by omega, rfl, Below.refl _ _, HP0⟩
      case round =>
        obtain ⟨t, ht, rfl, hbq, HP⟩ := hrel
        obtain ⟨wq, hwq⟩ : ∃ wq, wq = wr := ⟨wr, rfl⟩
        subst hwq
        have HBQ := Lib.hid (HB3.out.trans (hbq.mono (by rw [HW3S.out]; omega)))
        have HBB2 := Lib.hid (HBB.out.below hbq)
        have hsq := HBQ.out.size
        have hbl := HBB2.out.lt
        have HBQ0 := Lib.hid hbq
        clear hbq
        by_cases htl : t < 2
        · obtain ⟨ab, hab, hab2⟩ : ∃ ab, wq.cell? ⟨wa.heap.size, t, none⟩ = some (.bool ab) ∧ ((t = 0 ∧ ab = false) ∨ (t = 1 ∧ ab = true)) := by
            have h0 := HBB2.out.cell 0
            have h1 := HBB2.out.cell 1
            by_cases e : t = 0
            · exact ⟨false, by rw [e, h0]; rfl, Or.inl ⟨e, rfl⟩⟩
            · exact ⟨true, by rw [show t = 1 by omega, h1]; rfl, Or.inr ⟨by omega, rfl⟩⟩
          have HAB := Lib.hid hab2
          clear hab2
          go_wp2_with fail
          refine (every_w (HW2.out.below HBQ.out) c hc).mono ?_
          rintro e w5 ⟨⟨v5, rfl, ho5⟩, hb5⟩
          obtain ⟨A5, C5, rfl, hr5⟩ := srow_of_own ho5
          have HR5 := Lib.hid hr5
          have HB5 := Lib.hid (HBQ.out.trans (hb5.mono hsq))
          have HB50 := Lib.hid hb5
          have HW5 := Lib.hid (HW2.out.below HB5.out)
          have HZ5 := Lib.hid (HZ2.out.below HB5.out)
          have hs5 := HB5.out.size
          clear ho5 hr5 hb5
          generalize hev : every (wl l) c = ev at *
          have HEV := Lib.hid hev
          clear hev
          go_wp2_with fail
          go_loopw [52] (fun i wi => ∃ j : Nat, j ≤ ev.length ∧ i = .int .i64 j ∧ Below w5.heap.size w5 wi ∧ Hid (∀ x ∈ ev.take j, hitF (wl l) n k ab x = none)) (fun i _ => ev.length - (RowKit.intOf i).toNat)
          case atStart => exact ⟨0, by omega, rfl, Below.refl _ _, Lib.hid (by simp)⟩
          case round =>
            obtain ⟨j, hj, rfl, hb, HA⟩ := hrel
            have HBI := Lib.hid hb
            have hsi := hb.size
            by_cases hlk : j < ev.length
            · obtain ⟨x, hx⟩ : ∃ x, ev[j]? = some x := ⟨_, List.getElem?_eq_getElem hlk⟩
              obtain ⟨b1, off, rfl, hlt, c0⟩ := strs_cell (HR5.out.below hb) hx
              have hxl := HEE.out x (List.mem_of_getElem? hx)
              have hlkx := cur_look (n := x) (HW5.out.below hb).at_ (Nat.le_trans hxl hml)
              have hmb := (cur_bounds HW.out x).2.2.2.2
              have HX := Lib.hid hx
              have HCA := Lib.hid (cur_at (HW5.out.below hb).at_ x)
              have HOA := Lib.hid (own_at (L := L) n k x)
              have HFA := Lib.hid (face_at (L := L) x)
              rw [hcl.out] at HOA HFA
              clear hb hx
              go_wp2_with fail
              refine (own_calls _ _ n k _ HCA.out (by omega)).mono ?_
              rintro e w6 ⟨hb6, ⟨hn, rfl⟩ | ⟨i0, m, q, hi0, hq, hm, rfl⟩⟩
              · have HB6 := Lib.hid (HBI.out.trans (hb6.mono hsi))
                have hs6 := HB6.out.size
                have HA2 := Lib.hid (take_all_succ (P := fun x => hitF (wl l) n k ab x = none) HA.out HX.out (hitF_none (by rw [HOA.out]; exact hn)))
                clear hb6 hn hlkx
                unfold methV
                go_wp2_with fail
                go_roundw
                case rel => exact ⟨j + 1, by omega, by go_num, HB6.out.alloc hs6 _, HA2⟩
                case measure => simp [RowKit.intOf]; omega
              · have HB6 := Lib.hid (HBI.out.trans (hb6.mono hsi))
                have hs6 := HB6.out.size
                have HZ6 := Lib.hid (HZ5.out.below HB6.out)
                have HQ := Lib.hid (show MethAt w m q from (cur_at HW.out.at_ x).2.2.2.2 i0 m q hi0 hq)
                have HOM := Lib.hid (show ownAt (wl l) n k x = some m by rw [HOA.out]; exact hm)
                have hlk6 := cur_look (n := x) ((HW5.out.below HB6.out).below ((Below.refl _ _).alloc (Nat.le_refl _) (.cells #[.string ⟨⟨m.nm⟩⟩, .string ⟨⟨m.ty⟩⟩, .bool m.stat, .bool m.abst, .bool m.priv, .int .i64 m.loc, .slice q.ca m.code.length q.cc, .slice q.ha m.hs.length q.hc] 63))).at_ (Nat.le_trans hxl hml)
                have hfc := class_face (curP L x).1 (curP L x).2
                clear hb6 hm hq hlkx hi0
                unfold methV
                cases hf : (curP L x).1.face with
                | false =>
                  rw [hf] at hfc HFA
                  have HA2 := Lib.hid (take_all_succ (P := fun x => hitF (wl l) n k ab x = none) HA.out HX.out (hitF_face HFA.out))
                  clear hf
                  go_wp2_with fail
                  go_roundw
                  case rel => exact ⟨j + 1, by omega, by go_num, HB6.out.alloc hs6 _, HA2⟩
                  case measure => simp [RowKit.intOf]; omega
                | true =>
                  rw [hf] at hfc HFA
                  clear hf
                  cases ha : m.abst == ab with
                  | false =>
                    have HA2 := Lib.hid (take_all_succ (P := fun x => hitF (wl l) n k ab x = none) HA.out HX.out (hitF_ab HOM.out ha))
                    go_wp2_with fail
                    go_roundw
                    case rel => exact ⟨j + 1, by omega, by go_num, HB6.out.alloc hs6 _, HA2⟩
                    case measure => simp [RowKit.intOf]; omega
                  | true =>
                    have HM := Lib.hid (past_hit HP.out HAB.out (by rw [HEV.out]; exact some_at HA.out HX.out (hitF_some HOM.out HFA.out ha)))
                    have e1 := eq_of_beq ha
                    clear ha
                    subst e1
                    go_wp2_with fail
                    refine wp_tail 3 (by kernel_rfl) (by kernel_rfl) ?_
                    simp only [List.take_succ_cons, List.take_zero, List.drop_succ_cons, List.drop_zero]
                    repeat still_step
                    refine wpStill_nil ?_
                    go_wp2_with (refine wpList_store_blk (x := .tmp 9) (y := .tmp 79) (ty := 63) (g := w.heap.size) (cells := mArr m q) (by rfl) (by rfl) (by rfl) (by rfl) (HZ6.out.below ((Below.refl _ _).alloc (Nat.le_refl _) _)).drew info_meth rfl (mArr_one m q) ?_)
                    intro W2 hbk hgr
                    obtain ⟨d0, d1, d2, d3, d4, d5, d6, d7⟩ := mblk_cells hbk
                    have HB9 := Lib.hid (below_grown (HB2.out.trans (((HB5.out.trans (HB6.out.mono hs5)).alloc (by omega) _).drew.mono hs2)) hgr (Nat.le_refl _) (by simp; omega))
                    clear hbk hgr
                    go_wp2_with fail
                    exact bodyPost_ret (v := .tuple #[.string ⟨⟨x⟩⟩, methV m q, .bool true]) (by simp [results, Tryz.results181, go_sem, d0, d1, d2, d3, d4, d5, d6, d7, methV]) rfl ⟨HB9.out, Or.inr ⟨x, m, q, HM.out, HQ.out, rfl⟩⟩
            · obtain rfl : j = ev.length := by omega
              have HN := Lib.hid (past_next HP.out HAB.out (by rw [HEV.out]; exact none_all (by have := HA.out; rwa [List.take_length] at this)))
              have HB7 := Lib.hid (show Below (wa.alloc (.cells #[.bool false, .bool true] 4)).heap.size (wa.alloc (.cells #[.bool false, .bool true] 4)) wr from bl_trans (bl_trans HBQ0.out HB50.out) HBI.out)
              clear hb HA
              go_wp2_with fail
              go_roundw
              case rel => exact ⟨t + 1, by omega, by go_num, HB7.out, HN⟩
              case measure => simp [RowKit.intOf]; omega
        · obtain rfl : t = 2 := by omega
          have HM := Lib.hid (methOf_none HP.out.1 (HP.out.2.1 (by omega)) (HP.out.2.2 (by omega)))
          have HZ5 := Lib.hid (HZ2.out.below HBQ.out)
          go_wp2_with (refine wpList_store_blk (x := .tmp 9) (y := .tmp 82) (ty := 63) (g := w.heap.size) (cells := mArr zeroMR nilM) (by rfl) (by rfl) (by rfl) (by rfl) HZ5.out info_meth rfl (mArr_one zeroMR nilM) ?_)
          intro W2 hbk hgr
          obtain ⟨d0, d1, d2, d3, d4, d5, d6, d7⟩ := mblk_cells hbk
          have HB9 := Lib.hid (below_grown (HB2.out.trans (HBQ.out.mono hs2)) hgr (Nat.le_refl _) (by omega))
          clear hbk hgr
          go_wp2_with fail
          exact bodyPost_ret (v := .tuple #[.string ⟨#[]⟩, methV zeroMR nilM, .bool false]) (by simp [results, Tryz.results181, go_sem, d0, d1, d2, d3, d4, d5, d6, d7, methV]) rfl ⟨HB9.out, Or.inl ⟨HM.out, rfl⟩⟩
end Go.Proofs.YtanjggdmgeedlaaGreatDoor
