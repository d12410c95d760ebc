/-
  StartAgain: the walk of start.Order and of the law.
-/
import Derived.Test.YtokomofjcnefaaaDoorTexts
import Derived.Test.YtokomofjcnefaaaDoorFrame
import Derived.Deep.RegionHeld3
namespace Go.Proofs.YtokomofjcnefaaaDoor
set_option linter.unusedVariables false
set_option linter.unusedSimpArgs false
open Go.RowKit Go.Shelf Go.Lib Go.Sort

theorem rev_own (A : List Nm) (B : Nat) (g cap : Nat) (w0 w : World) (hb : Below B w0 w) (hg : B ≤ g) (h : w.ownsRow B 9 1 (.slice (some ⟨g, 0, none⟩) A.length cap) A.length (A.map strV)) (hl : A.length ≤ 1000000) :
    Calls Tryd.prog 21 #[.slice (some ⟨g, 0, none⟩) A.length cap] w fun e w' => e = .returned (.tuple #[]) ∧ Below B w0 w' ∧ w'.ownsRow B 9 1 (.slice (some ⟨g, 0, none⟩) A.length cap) A.length (A.reverse.map strV) ∧ Below g w w' := by
  obtain ⟨g', cap', hv, _, hlt, hle, _, hzl, hH⟩ := holds_of_ownsRow (enc := encStr) (zs := A) h (by simp)
  simp only [Value.slice.injEq, Option.some.injEq, Addr.mk.injEq] at hv
  obtain ⟨⟨rfl, _, _⟩, _, rfl⟩ := hv
  refine (Tryd.slices_Reverse_string g 0 cap A w hH (by omega)).mono ?_
  rintro e w' ⟨rfl, n, rfl⟩
  refine ⟨rfl, below_putRow (enc := encStr) (q := n) hb hg, ?_, below_putRow (enc := encStr) (q := n) (Below.refl _ _) (Nat.le_refl _)⟩
  have h2 := ownsRow_putRow (enc := encStr) (q := n) (k := A.length) (ys := A.reverse) h (by simp) (Nat.le_refl _)
  rw [List.take_of_length_le (by simp)] at h2
  exact h2

theorem startUp_take {L : List ClassR} {us : List Nm} {k : Nat} {u : Nm} (h : us[k]? = some u) : startUp L (us.take (k + 1)) = addNew (startUp L (us.take k)) (line L u).reverse := by
  obtain ⟨hk, rfl⟩ := List.getElem?_eq_some_iff.1 h
  rw [List.take_succ_eq_append_getElem hk, startUp_snoc]

open Classical in
noncomputable def ordErr (l : List ClassR) (us : List Nm) : Int := if readErr l ≠ 0 then readErr l else if ∀ u ∈ us, u ∈ names l then 0 else 3
theorem ordErr_zero {l : List ClassR} {us : List Nm} : ordErr l us = 0 ↔ Good l ∧ ∀ u ∈ us, u ∈ names l := by
  unfold ordErr
  by_cases h : readErr l = 0
  · rw [if_neg (by simp [h])]
    by_cases h2 : ∀ u ∈ us, u ∈ names l
    · rw [if_pos h2]; exact ⟨fun _ => ⟨(readErr_zero l).1 h, h2⟩, fun _ => rfl⟩
    · rw [if_neg h2]; exact ⟨fun h => by omega, fun h => absurd h.2 h2⟩
  · rw [if_pos h]; exact ⟨fun h2 => absurd h2 h, fun h2 => absurd (good_read h2.1) h⟩

theorem start_len {l : List ClassR} (hg : Good l) (us : List Nm) (hu : ∀ u ∈ us, u ∈ names l) : (startUp (wl l) us).length ≤ 12 ∧ (startUp (wl l) us).Nodup := by
  have hn : (startUp (wl l) us).Nodup := start_ind (P := fun out => out.Nodup) (by simp) (fun out u h => addNew_nodup _ _ h) us
  exact ⟨Nat.le_trans (nodup_len hn (start_names hg us hu)) (good_names hg), hn⟩

/-- the state within one round -/
structure Ord (l : List ClassR) (us : List Nm) (k : Nat) (al : List Nm) (j : Nat) (out : List Nm) : Prop where
  fin : addNew out (al.drop j) = startUp (wl l) (us.take (k + 1))
  len : out.length ≤ (startUp (wl l) (us.take (k + 1))).length
theorem Ord.step {l : List ClassR} {us : List Nm} {k j : Nat} {al out : List Nm} {x : Nm} (h : Ord l us k al j out) (hx : al[j]? = some x) : Ord l us k al (j + 1) (if out.contains x then out else out ++ [x]) := by
  have hf := h.fin
  rw [addNew_drop out hx] at hf
  refine ⟨hf, ?_⟩
  obtain ⟨r, hr⟩ := addNew_pre (al.drop (j + 1)) (if out.contains x then out else out ++ [x])
  rw [← hf, hr, List.length_append]
  omega

theorem own_at {w w' : World} {B : Nat} {e : TypeId} {size : Nat} {v : Value} {n : Nat} {xs : List Value} (h : w.ownsRow B e size v n xs) (hk : ∀ k, v.ownBlock = some k → w'.heap[k]? = w.heap[k]?) : w'.ownsRow B e size v n xs := by
  refine ⟨h.1, ?_⟩
  rcases h.2 with h1 | ⟨g, cap, cur, h1, h2, h3, h4⟩
  · exact Or.inl h1
  · exact Or.inr ⟨g, cap, cur, h1, h2, by rw [hk g (by rw [h1]; rfl)]; exact h3, h4⟩
theorem smap_ne {w : World} {b n B g : Nat} {f : List UInt8 → Option Value} {m c : Nat} {xs : List Value} (h : SMap w b n f) (ho : w.ownsRow B 9 1 (.slice (some ⟨g, 0, none⟩) m c) m xs) : b ≠ g := by
  rintro rfl
  obtain ⟨es, clock, hb, _⟩ := h
  rcases ho.2 with ⟨h1, _⟩ | ⟨g', cap, cur, h1, _, h3, _⟩
  · simp at h1
  · simp only [Value.slice.injEq, Option.some.injEq, Addr.mk.injEq] at h1
    obtain ⟨⟨rfl, _, _⟩, _⟩ := h1
    rw [hb] at h3
    simp at h3
theorem world_grown {w0 w w4 : World} {o : Obj} {b g n c : Nat} {l : List ClassR} {ps : List CAddr} {a : Option Addr} {cap : Nat} (hC : ClassesAt w0 a cap l ps) (hW : WorldAt w b (wcp l ps)) (hg : (w.alloc o).grownBy w4 (Value.slice (some ⟨g, 0, none⟩) n c).ownBlock) (hne : b ≠ g) (hb : Below w0.heap.size w0 w4) : WorldAt w4 b (wcp l ps) :=
  ⟨hW.1.kept ((hg.block b (by have := hW.lt; simp; omega) (by simp [Value.ownBlock]; exact fun e => hne e)).trans (Below.heap_alloc w o b hW.lt)), cls_all hC hb⟩

set_option maxRecDepth 100000 in
set_option maxHeartbeats 4000000 in
theorem order_calls (l : List ClassR) (ps : List CAddr) (a : Option Addr) (cap : Nat) (us : List Nm) (ua : Option Addr) (uc : Nat) (w : World) (hC : ClassesAt w a cap l ps) (hF : FormsAt w) (hB : ClsOk l) (hU : SRow w ua uc us) (hul : us.length ≤ 100000000) (hun : ∀ u ∈ us, u.length ≤ 1048576) :
    Calls Tryd.prog 14 #[.slice a l.length cap, .slice ua us.length uc] w (ListRes (ordErr l us) (startUp (wl l) us) w) := by
  have HR := Lib.hid (read_calls l ps a cap w hC hF hB)
  have HPS := Lib.hid hC.1
  have HC := Lib.hid hC
  have HU := Lib.hid hU
  have HUN := Lib.hid hun
  have HSU := Lib.hid (cp_sup (ps := ps) hB)
  have hml : (1048576 : Nat) ≤ maxLen := by unfold maxLen; omega
  clear hC hF hB hU hun
  go_enter Tryd.func14, Tryd.ntmps14
  go_wp2_with fail
  refine HR.out.mono ?_
  rintro e w2 ⟨hb2, ⟨hne, rfl⟩ | ⟨hg, b, rfl, hwb, hw⟩⟩
  · have HB2 := Lib.hid hb2
    have HEE := Lib.hid (show ordErr l us = readErr l by unfold ordErr; rw [if_pos hne])
    have HNE := Lib.hid hne
    clear hb2
    generalize readErr l = m at *
    clear hne
    go_wp2_with fail
    go_ret2
    exact ⟨HB2.out, Or.inl ⟨by rw [HEE.out]; exact HNE.out, by rw [HEE.out]; rfl⟩⟩
  · have HB2 := Lib.hid hb2
    have HW := Lib.hid hw
    have HG := Lib.hid hg
    clear hb2 hw hg HR
    go_wp2_with fail
    go_loopw [28] (fun i wr => ∃ k : Nat, k ≤ us.length ∧ i = .int .i64 k ∧ Below w.heap.size w wr ∧ Hid (WorldAt wr b (wcp l ps)) ∧ Hid (∀ u ∈ us.take k, u ∈ names l)) (fun i _ => us.length - (RowKit.intOf i).toNat)
    case atStart => exact ⟨0, by omega, rfl, HB2.out, HW, Lib.hid (by simp)⟩
    case round =>
      obtain ⟨k, hk, rfl, hb, HWR, HZ⟩ := hrel
      have HB := Lib.hid hb
      have hsz := hb.size
      clear HW HB2
      by_cases hlk : k < us.length
      · obtain ⟨u, hx⟩ : ∃ u, us[k]? = some u := ⟨_, List.getElem?_eq_getElem hlk⟩
        obtain ⟨b1, off, rfl, hlt, d0⟩ := strs_cell (HU.out.below hb) hx
        have hunl := HUN.out u (List.mem_of_getElem? hx)
        have HX := Lib.hid hx
        clear hx hb
        cases hf : cpFind (wcp l ps) u with
        | none =>
          have HEE := Lib.hid (show ordErr l us = 3 by
            unfold ordErr
            rw [if_neg (by rw [good_read HG.out]; simp), if_neg]
            intro h
            have h1 := look_some.2 (h u (List.mem_of_getElem? HX.out))
            rw [← cl_wcp HPS.out, isSome_none hf] at h1
            cases h1)
          have hlk2 := wlook_none HWR.out (Nat.le_trans hunl hml) hf true
          simp only [if_true] at hlk2
          unfold zeroC at hlk2
          clear hf
          go_wp2_with fail
          go_ret2
          exact ⟨HB.out.alloc hsz _, Or.inl ⟨by rw [HEE.out]; omega, by rw [HEE.out]; rfl⟩⟩
        | some cp =>
          have HZ2 := Lib.hid (take_all_succ (P := fun u => u ∈ names l) HZ.out HX.out (look_some.1 (by
            have := isSome_some hf
            rw [cl_wcp HPS.out] at this
            rw [this]; rfl)))
          have hlk2 := wlook_some HWR.out (Nat.le_trans hunl hml) hf true
          simp only [if_true] at hlk2
          unfold classV at hlk2
          clear hf
          go_wp2_with fail
          go_roundw
          case rel => exact ⟨k + 1, by omega, by go_num, HB.out.alloc hsz _, HWR.out.below ((Below.refl _ _).alloc (Nat.le_refl _) _), HZ2⟩
          case measure => simp [RowKit.intOf]; omega
      · obtain rfl : k = us.length := by omega
        have hall := HZ.out
        rw [List.take_length] at hall
        have HALL := Lib.hid hall
        have HE0 := Lib.hid (ordErr_zero.2 ⟨HG.out, hall⟩)
        have ho0 : (wr.alloc (.cells #[strV objN] 9)).ownsRow w.heap.size 9 1 (.slice (some ⟨wr.heap.size, 0, none⟩) 1 1) 1 [strV objN] := by
          have := World.ownsRow_lit (base := w.heap.size) (e := 9) (size := 1) wr #[strV objN] 1 hsz (by unfold maxLen; omega) rfl
          exact this
        have HO0 := Lib.hid ho0
        clear hall hb hlk ho0 HZ
        go_wp2_with fail
        go_loopw [12, 45] (fun v i wq => ∃ (k : Nat) (g C : Nat), k ≤ us.length ∧ i = .int .i64 k ∧ v = .slice (some ⟨g, 0, none⟩) (startUp (wl l) (us.take k)).length C ∧ wq.ownsRow w.heap.size 9 1 (.slice (some ⟨g, 0, none⟩) (startUp (wl l) (us.take k)).length C) (startUp (wl l) (us.take k)).length ((startUp (wl l) (us.take k)).map strV) ∧ Below w.heap.size w wq ∧ Hid (WorldAt wq b (wcp l ps)) ∧ b < g) (fun _ i _ => us.length - (RowKit.intOf i).toNat)
        case atStart => exact ⟨0, wr.heap.size, 1, by omega, rfl, by simp [startUp], HO0.out, HB.out.alloc hsz _, HWR.out.below ((Below.refl _ _).alloc (Nat.le_refl _) _), HWR.out.lt⟩
        case round =>
          obtain ⟨k, g, C, hk, rfl, rfl, ho, hb, HWQ, hbg⟩ := hrel
          have HO := Lib.hid ho
          have HBQ := Lib.hid hb
          have hszq := hb.size
          have hglt := (ho.lt g rfl).2
          have hst := start_len HG.out (us.take k) (fun u hu => HALL.out u (List.mem_of_mem_take hu))
          obtain ⟨hl12, _⟩ := hst
          clear HB HWR
          by_cases hlk : k < us.length
          · obtain ⟨u, hx⟩ : ∃ u, us[k]? = some u := ⟨_, List.getElem?_eq_getElem hlk⟩
            obtain ⟨b1, off, rfl, hlt, d0⟩ := strs_cell (HU.out.below hb) hx
            have hunl := HUN.out u (List.mem_of_getElem? hx)
            have HST := Lib.hid (startUp_take (L := wl l) hx)
            have hst2 := (start_len HG.out (us.take (k + 1)) (fun u hu => HALL.out u (List.mem_of_mem_take hu))).1
            have HLN := Lib.hid (line_calls (wcp l ps) l b u _ HWQ.out (cl_wcp HPS.out) HG.out hunl HSU.out)
            have hll := (line_end HG.out u).choose_spec.1.len HG.out
            have hlp : 0 < (line (wl l) u).length := by unfold line; simp
            clear hx hb ho
            go_wp2_with fail
            refine HLN.out.mono ?_
            rintro e w3 ⟨⟨v3, rfl, ho3⟩, hb3⟩
            obtain ⟨gl, Cl, rfl, hglB, hgl3⟩ := ho3.form hlp
            have HB3 := Lib.hid (bl_trans HBQ.out hb3)
            have hsz3 := HB3.out.size
            have HRV := Lib.hid (rev_own (line (wl l) u) w.heap.size gl Cl w w3 HB3.out (by omega) (own_down ho3 hszq) (by omega))
            have HO3 := Lib.hid (own_below HO.out hb3)
            have HW3 := Lib.hid (HWQ.out.below hb3)
            clear hb3 ho3 HLN
            go_wp2_with fail
            refine HRV.out.mono ?_
            rintro e w4 ⟨rfl, hb4, ho4, hbg4⟩
            have HB4 := Lib.hid hb4
            have HO4 := Lib.hid (own_at (w' := w4) HO3.out (fun q hq => by cases hq; exact hbg4.block g (by omega)))
            have HW4 := Lib.hid (show WorldAt w4 b (wcp l ps) from ⟨HW3.out.1.kept (hbg4.block b (by omega)), cls_all HC.out hb4⟩)
            have hrl : (line (wl l) u).reverse.length = (line (wl l) u).length := by simp
            obtain ⟨a5, c5, hv5, hs5⟩ := srow_of_own (A := (line (wl l) u).reverse) (by rw [hrl]; exact ho4)
            rw [hrl] at hv5
            simp only [Value.slice.injEq] at hv5
            obtain ⟨rfl, _, rfl⟩ := hv5
            have HS4 := Lib.hid hs5
            have hg4l : gl < w4.heap.size := Nat.lt_of_lt_of_le hgl3 hbg4.size
            have HI0 := Lib.hid (show Ord l us k (line (wl l) u).reverse 0 (startUp (wl l) (us.take k)) from ⟨HST.out.symm, by
              obtain ⟨r, hr⟩ := addNew_pre (line (wl l) u).reverse (startUp (wl l) (us.take k))
              rw [HST.out, hr, List.length_append]; omega⟩)
            have hz1 : (startUp (wl l) (us.take (k + 1))).length ≤ 12 := hst2
            rw [← hrl]
            have hral : (line (wl l) u).reverse.length ≤ 13 := by omega
            generalize (line (wl l) u).reverse = al at *
            clear hb4 ho4 hbg4 hs5 HRV HO3 HW3 HST hrl
            go_wp2_with fail
            go_loopw [56, 12] (fun j v wq => ∃ (m : Nat) (out : List Nm) (g2 C2 : Nat), m ≤ al.length ∧ j = .int .i64 m ∧ v = .slice (some ⟨g2, 0, none⟩) out.length C2 ∧ wq.ownsRow w.heap.size 9 1 (.slice (some ⟨g2, 0, none⟩) out.length C2) out.length (out.map strV) ∧ Below w.heap.size w wq ∧ Hid (WorldAt wq b (wcp l ps)) ∧ SRow wq (some ⟨gl, 0, none⟩) Cl al ∧ Hid (Ord l us k al m out) ∧ Hid (gl ≠ g2 ∧ gl < wq.heap.size ∧ b < g2)) (fun j _ _ => al.length - (RowKit.intOf j).toNat)
            case atStart => exact ⟨0, _, g, C, by omega, rfl, rfl, HO4.out, HB4.out, HW4, HS4.out, HI0, Lib.hid ⟨by omega, hg4l, hbg⟩⟩
            case round =>
              obtain ⟨m, out, g2, C2, hm, rfl, rfl, ho, hb, HWI, hs, HOR, HAP⟩ := hrel
              have HOI := Lib.hid ho
              have HBI := Lib.hid hb
              have HSI := Lib.hid hs
              have hszi := hb.size
              have hol := HOR.out.len
              have hbg2 := smap_ne HWI.out.1 ho
              by_cases hmk : m < al.length
              · obtain ⟨y, hy⟩ : ∃ y, al[m]? = some y := ⟨_, List.getElem?_eq_getElem hmk⟩
                obtain ⟨b3, off3, e3, hlt3, f0⟩ := strs_cell hs hy
                obtain ⟨rfl, rfl⟩ : b3 = gl ∧ off3 = 0 := by simp only [Option.some.injEq, Addr.mk.injEq] at e3; omega
                rw [Nat.zero_add] at f0
                obtain ⟨a4, cap4, hv4, hsr4⟩ := srow_of_own ho
                simp only [Value.slice.injEq] at hv4
                obtain ⟨rfl, _, rfl⟩ := hv4
                have HCT := Lib.hid (contains_str out _ out.length _ y _ hsr4 rfl (by omega))
                have HI2 := Lib.hid (HOR.out.step hy)
                have hap := HAP.out
                obtain ⟨hap1, hap2, hap3⟩ := hap
                clear ho hb hs hy hsr4 e3
                cases hc : out.contains y with
                | true =>
                  rw [hc] at HCT HI2
                  simp only [if_true] at HI2
                  clear hc
                  go_wp2_with fail
                  refine HCT.out.mono ?_
                  rintro e w5 ⟨rfl, rfl⟩
                  go_wp2_with fail
                  go_roundw
                  case rel => exact ⟨m + 1, out, g2, C2, by omega, by go_num, rfl, HOI.out, HBI.out, HWI, HSI.out, HI2, HAP⟩
                  case measure => simp [RowKit.intOf]; omega
                | false =>
                  rw [hc] at HCT HI2
                  simp only [Bool.false_eq_true, if_false] at HI2
                  clear hc
                  go_wp2_with fail
                  refine HCT.out.mono ?_
                  rintro e w5 ⟨rfl, rfl⟩
                  go_wp2_with (at_builtin; refine wpList_append_str rfl _ _ rfl w.heap.size _ out.length (out.map strV) rfl ?c0 y _ rfl ?cg ?c2 ?c4 ?_)
                  case c0 => exact HOI.out
                  case cg => rfl
                  case c2 => omega
                  case c4 => exact hszi
                  intro g4 C4 w6 ho6 hg6 hat
                  have hb6 := grown_below hszi HOI.out hg6
                  have HB6 := Lib.hid (HBI.out.trans hb6)
                  have ho7 : w6.ownsRow w.heap.size 9 1 (.slice (some ⟨g4, 0, none⟩) (out.length + 1) C4) (out ++ [y]).length ((out ++ [y]).map strV) := by
                    rw [List.length_append, List.length_singleton, List.map_append]; exact ho6
                  have HO7 := Lib.hid ho7
                  have HS6 := Lib.hid (srow_grown HSI.out hg6 (Or.inr (fun ad had => by cases had; exact hap1)))
                  have HW6 := Lib.hid (world_grown HC.out HWI.out hg6 hbg2 HB6.out)
                  have hs6 := hg6.size
                  have HAP6 : Hid (b3 ≠ g4 ∧ b3 < w6.heap.size ∧ b < g4) := by
                    have hbl := HWI.out.lt
                    simp at hs6
                    rcases hat with e | e
                    · simp [Value.ownBlock] at e
                      subst e
                      exact ⟨hap1, by omega, hap3⟩
                    · exact ⟨by omega, by omega, by omega⟩
                  clear ho6 hg6 hb6 ho7 hat hs6
                  go_wp2_with fail
                  go_roundw
                  case rel => exact ⟨m + 1, out ++ [y], g4, C4, by omega, by go_num, by simp, by simpa using HO7.out, HB6.out, HW6, HS6.out, HI2, HAP6⟩
                  case measure => simp [RowKit.intOf]; omega
              · obtain rfl : m = al.length := by omega
                have hf := HOR.out.fin
                rw [List.drop_length] at hf
                have HF := Lib.hid (show out = startUp (wl l) (us.take (k + 1)) from hf)
                have HAP3 := Lib.hid HAP.out.2.2
                clear ho hb hs hmk hf
                go_wp2_with fail
                go_roundw
                case rel => exact ⟨k + 1, g2, C2, by omega, by go_num, by rw [← HF.out], by rw [← HF.out]; exact HOI.out, HBI.out, HWI, HAP3.out⟩
                case measure => simp [RowKit.intOf]; omega
          · obtain rfl : k = us.length := by omega
            rw [List.take_length] at HO
            clear hb ho hlk
            go_wp2_with fail
            go_ret2
            exact ⟨HBQ.out, Or.inr ⟨HE0.out, _, by rw [List.take_length]; rfl, HO.out⟩⟩
/-- a new slice of one element, as a source -/
theorem one_src (W : World) (cs : List Value) (t : TypeId) (size g : Nat) (hg : g = W.heap.size) (hl : cs.length = size) (h1 : ∀ u ∈ cs, u.oneCell' = true) : SrcRow (W.alloc (.cells cs.toArray t)) size (.slice (some ⟨g, 0, none⟩) 1 1) 1 cs := by
  subst hg
  exact ⟨by omega, h1, Or.inr ⟨_, 1, rfl, fun j u hj => new_cells W cs t j u hj⟩⟩
theorem one_grown {W w3 : World} {cs : List Value} {size g b n c : Nat} (h : SrcRow W size (.slice (some ⟨g, 0, none⟩) 1 1) 1 cs) (hg : W.grownBy w3 (Value.slice (some ⟨b, 0, none⟩) n c).ownBlock) (hlt : g < W.heap.size) (hne : g ≠ b) : SrcRow w3 size (.slice (some ⟨g, 0, none⟩) 1 1) 1 cs :=
  h.moved (fun k hk => hg.block k (by simp [Value.ownBlock] at hk; omega) (by simp [Value.ownBlock] at hk ⊢; omega))
theorem one_drew {W : World} {cs : List Value} {size g : Nat} (h : SrcRow W size (.slice (some ⟨g, 0, none⟩) 1 1) 1 cs) : SrcRow W.drew size (.slice (some ⟨g, 0, none⟩) 1 1) 1 cs := h
theorem one_alloc {W : World} {cs : List Value} {size g : Nat} (h : SrcRow W size (.slice (some ⟨g, 0, none⟩) 1 1) 1 cs) (hlt : g < W.heap.size) (o : Obj) : SrcRow (W.alloc o) size (.slice (some ⟨g, 0, none⟩) 1 1) 1 cs :=
  h.moved (fun k hk => by simp [Value.ownBlock] at hk; subst hk; exact Below.heap_alloc W o g hlt)
theorem own_two (W : World) (o : Obj) (t : TypeId) (size : Nat) : ((W.alloc o).alloc (.cells #[] t)).ownsRow W.heap.size t size (.slice (some ⟨W.heap.size + 1, 0, none⟩) 0 0) 0 [] := by
  have h := World.ownsRow_made (base := W.heap.size) (e := t) (size := size) (W.alloc o) #[] 0 (by simp) (by unfold maxLen; omega) (by simp)
  have e : (W.alloc o).heap.size = W.heap.size + 1 := by simp
  rw [e] at h
  exact h

theorem turn_at (n : Int) (L : Nat) (h0 : 0 < L) (hL : L ≤ 1000000000) : ∃ k : Nat, k < L ∧ (IntKind.u64.wrap n).tmod (IntKind.u64.wrap (L : Int)) = (k : Int) := by
  have h1 : IntKind.u64.wrap (L : Int) = L := by rw [IntKind.wrap_u64]; omega
  have h2 : 0 ≤ IntKind.u64.wrap n := by rw [IntKind.wrap_u64]; omega
  rw [h1]
  refine ⟨((IntKind.u64.wrap n).tmod L).toNat, ?_, ?_⟩
  · have := Int.tmod_lt_of_pos (IntKind.u64.wrap n) (show (0 : Int) < L by omega)
    have h3 := Int.tmod_nonneg (L : Int) h2
    omega
  · have h3 := Int.tmod_nonneg (L : Int) h2
    omega


set_option maxRecDepth 100000 in
set_option maxHeartbeats 4000000 in
theorem startAgain_go (l : List ClassR) (ps : List CAddr) (a : Option Addr) (cap : Nat) (us : List Nm) (ua : Option Addr) (uc : Nat) (i : Int) (w : World) (hC : ClassesAt w a cap l ps) (hF : FormsAt w) (hB : ClsOk l) (hU : SRow w ua uc us) (hul : us.length ≤ 1048576) (hun : ∀ u ∈ us, u.length ≤ 1048576) :
    Calls Tryd.prog 6 #[.slice a l.length cap, .slice ua us.length uc, .int .i64 i] w fun e w' => e = .returned (.bool true) ∧ Below w.heap.size w w' := by
  have HC := Lib.hid hC
  have HF := Lib.hid hF
  have HB := Lib.hid hB
  have HU := Lib.hid hU
  have HUN := Lib.hid hun
  clear hC hF hB hU hun
  go_enter Tryd.func6, Tryd.ntmps6
  go_wp2_with fail
  refine (named_true _).mono ?_
  rintro e w1 ⟨rfl, hb1⟩
  have HB1 := Lib.hid hb1
  have HO1 := Lib.hid (order_calls l ps a cap us ua uc w1 (HC.out.below hb1) (HF.out.below hb1) HB.out (HU.out.below hb1) (by omega) HUN.out)
  clear hb1
  go_wp2_with fail
  refine HO1.out.mono ?_
  intro e w2 hr
  obtain ⟨hb2, v2, ev2, rfl, hv2⟩ := list_open hr
  have HB2 := Lib.hid (bl_trans HB1.out hb2)
  clear hr hb2 HO1
  rcases hv2 with ⟨hne, rfl, rfl⟩ | ⟨h0, rfl, a3, c3, rfl, hs3⟩
  · generalize ordErr l us = z at *
    clear hne
    go_wp2_with fail
    go_ret
    exact ⟨rfl, HB2.out⟩
  · obtain ⟨hg, hall⟩ := ordErr_zero.1 h0
    have HG := Lib.hid hg
    have HALL := Lib.hid hall
    have hlen := (start_len hg us hall).1
    have hpos : 0 < (startUp (wl l) us).length := List.length_pos_iff.2 (start_ne _ _)
    obtain ⟨st, hst⟩ : ∃ st, st = startUp (wl l) us := ⟨_, rfl⟩
    have HST := Lib.hid hst
    rw [← hst] at hs3 hlen hpos
    rw [← hst]
    clear hst h0 hg hall
    obtain ⟨k, hk, hki⟩ : ∃ k : Nat, k < st.length ∧ (IntKind.u64.wrap i).tmod (IntKind.u64.wrap (st.length : Int)) = (k : Int) := by
      have h1 : IntKind.u64.wrap (st.length : Int) = st.length := by rw [IntKind.wrap_u64]; omega
      have h2 : 0 ≤ IntKind.u64.wrap i := by rw [IntKind.wrap_u64]; omega
      rw [h1]
      refine ⟨((IntKind.u64.wrap i).tmod st.length).toNat, ?_, ?_⟩
      · have := Int.tmod_lt_of_pos (IntKind.u64.wrap i) (show (0 : Int) < st.length by omega)
        have h3 := Int.tmod_nonneg (st.length : Int) h2
        omega
      · have h3 := Int.tmod_nonneg (st.length : Int) h2
        omega
    obtain ⟨x, hx⟩ : ∃ x, st[k]? = some x := ⟨_, List.getElem?_eq_getElem hk⟩
    have HX := Lib.hid hx
    have HS3 := Lib.hid hs3
    obtain ⟨b, off, rfl, hlt, d0⟩ := strs_cell hs3 hx
    have hxn : x ∈ names l := start_names HG.out us HALL.out x (by rw [← HST.out]; exact List.mem_of_getElem? hx)
    have HXN := Lib.hid hxn
    have hu1 : IntKind.u64.wrap (st.length : Int) = (st.length : Int) := by rw [IntKind.wrap_u64]; omega
    have hki2 : (IntKind.u64.wrap i).tmod (st.length : Int) = (k : Int) := by rw [hu1] at hki; exact hki
    have hki3 : IntKind.u64.wrap (k : Int) = (k : Int) := by rw [IntKind.wrap_u64]; omega
    have hne : ¬ st = [] := by intro h; rw [h] at hpos; simp at hpos
    have hk0 : (0 : Int) ≤ (k : Int) := Int.natCast_nonneg _
    have hk1 : (k : Int) < (st.length : Int) := by omega
    have hS : ∀ W', Below w2.heap.size w2 W' → W'.cell? ⟨b, off + k, none⟩ = some (.string ⟨⟨x⟩⟩) := fun W' hW => by rw [hW.cell (p := ⟨b, off + k, none⟩) hlt]; exact d0
    have HS := Lib.hid hS
    have HSRC := Lib.hid (fun W (hW : Below w2.heap.size w2 W) => src_of_strs ((HU.out.below HB2.out).below hW))
    have HONE := Lib.hid (show ∀ u ∈ ([strV x] : List Value), u.oneCell' = true by intro u hu; rw [List.mem_singleton.1 hu]; rfl)
    have HOR := Lib.hid (fun W (A5 : Option Addr) (C5 : Nat) (hW : Below w2.heap.size w2 W) (hr : SRow W A5 C5 (us ++ [x])) => by
      have h := order_calls l ps a cap (us ++ [x]) A5 C5 W ((HC.out.below HB2.out).below hW) ((HF.out.below HB2.out).below hW) HB.out hr (by simp; omega) (by
        intro u hu
        rcases List.mem_append.1 hu with h | h
        · exact HUN.out u h
        · rw [List.mem_singleton.1 h]; exact names_le HB.out x HXN.out)
      rw [ordErr_zero.2 ⟨HG.out, fun u hu => by
        rcases List.mem_append.1 hu with h | h
        · exact HALL.out u h
        · rw [List.mem_singleton.1 h]; exact HXN.out⟩, start_again HG.out us (by rw [← HST.out]; exact List.mem_of_getElem? HX.out), ← HST.out] at h
      exact h)
    clear hS hs3 hx d0 hxn
    go_wp2_with fail
    go_region_held3 (fun W' => W'.cell? ⟨b, off + k, none⟩ = some (.string ⟨⟨x⟩⟩))
      (first | (exact HS.out _ (by repeat (first | exact Below.refl _ _ | exact hb4 | exact hb5 | exact hb6 | refine Below.drew ?_ | refine Below.alloc ?_ (by first | omega | (simp; done) | (simp; omega)) _))))
      ((first
      | (
         refine step_app rowStr rfl (.tmp 41) (.tmp 42) rfl w2.heap.size _ 0 [] rfl ?_ _ us.length (us.map strV) rfl ?_ ?_ ?_ ?_ ?_
         · first | exact World.ownsRow_made w2 #[] 0 (Nat.le_refl _) (by unfold maxLen; omega) rfl | exact ((World.ownsRow_made w2 #[] 0 (Nat.le_refl _) (by unfold maxLen; omega) rfl).alloc _).drew | exact (World.ownsRow_made _ #[] 0 (by simp) (by unfold maxLen; omega) rfl).drew | exact (World.ownsRow_made w2 #[] 0 (Nat.le_refl _) (by unfold maxLen; omega) rfl).alloc _ | exact World.ownsRow_made _ #[] 0 (by simp) (by unfold maxLen; omega) rfl | exact own_two w2 _ _ _ | exact (own_two w2 _ _ _).drew
         · exact HSRC.out _ (by repeat (first | exact Below.refl _ _ | refine Below.drew ?_ | refine Below.alloc ?_ (by simp) _))
         · omega
         · omega
         · first | (simp; done) | (simp; omega)
         intro v4 w4 ho4 hg4 hv4
         have hb4 : Below w2.heap.size w2 w4 := Below.grown (by repeat (first | exact Below.refl _ _ | refine Below.drew ?_ | refine Below.alloc ?_ (by simp) _)) hg4 (by first | (simp; done) | (simp; omega)) hv4
         have hs4 := hb4.size
         change World.grownBy _ _ (Value.slice (some ⟨_, 0, none⟩) 0 0).ownBlock at hg4
         rw [Nat.zero_add, List.nil_append] at ho4
         have HO4 := Lib.hid ho4
         clear ho4)
      | (
         refine step_app rowStr rfl (.tmp 43) (.tmp 53) rfl w2.heap.size _ us.length (us.map strV) rfl ?_ _ 1 [strV x] rfl (Or.inr ?_) ?_ ?_ ?_ ?_
         · first | exact HO4.out.alloc _ | exact HO4.out | exact (HO4.out.alloc _).drew
         · first | exact one_src _ [strV x] _ 1 _ (by rfl) rfl HONE.out | exact one_drew (one_src _ [strV x] _ 1 _ (by rfl) rfl HONE.out) | exact one_src _ [strV x] _ 1 _ (by simp) rfl HONE.out | exact one_grown (one_drew (one_src _ [strV x] _ 1 _ (by simp) rfl HONE.out)) hg4 (by simp <;> omega) (by simp <;> omega) | exact one_grown (one_drew (one_alloc (one_src _ [strV x] _ 1 _ (by simp) rfl HONE.out) (by simp) _)) hg4 (by simp <;> omega) (by simp <;> omega)
         · omega
         · omega
         · first | exact hb4.size | (simp; have := hb4.size; omega)
         intro v5 w5 ho5 hg5 hv5
         have hb5 : Below w2.heap.size w2 w5 := Below.grown (by first | exact hb4.alloc hb4.size _ | exact hb4 | exact (hb4.alloc hb4.size _).drew) hg5 (by first | exact hb4.size | (simp; have := hb4.size; omega)) hv5
         have hs5 := hb5.size
         obtain ⟨A5, C5, rfl, hr5⟩ := srow_of_own (A := us ++ [x]) (by rw [List.length_append, List.length_singleton, List.map_append]; exact ho5)
         rw [List.length_append, List.length_singleton]
         have HR5 := Lib.hid (HOR.out w5 A5 C5 hb5 hr5)
         rw [List.length_append, List.length_singleton] at HR5
         clear ho5 hr5)
      | (go_at_call 14
         refine HR5.out.mono ?_
         intro e w6 hr
         obtain ⟨hb6', v6, ev6, rfl, hv6⟩ := list_open hr
         have hb6 := bl_trans hb5 hb6'
         have HB6 := Lib.hid hb6
         have HV6 := Lib.hid hv6
         clear hr hb6' hv6)))
    go_goals
    go_show
    all_goals
      have HS36 := Lib.hid (HS3.out.below HB6.out)
      rcases HV6.out with ⟨h, _⟩ | ⟨_, rfl, a6, c6, rfl, hs6⟩
      · exact absurd rfl h
      have HTX := Lib.hid (texts_same st _ a6 c3 c6 w6 HS36.out hs6 (by omega))
      have HBT := Lib.hid (bl_trans HB2.out HB6.out)
      clear hs6 HV6 HS36 HS3 HSRC HOR HS hg4 HO4 HR5
      go_wp2_with fail
      refine HTX.out.mono ?_
      rintro e w8 ⟨rfl, hb8⟩
      have HB8 := Lib.hid (bl_trans HBT.out hb8)
      clear hb8
      go_wp2_with fail
      go_ret
      exact ⟨rfl, HB8.out⟩
set_option maxRecDepth 100000 in
theorem startAgain.walk {H : Type} {enc : TypeId × Value → H} {W : World} {base : Nat} {v0 : Value} {d0 : DataW H} {p0 : List MemPlace} (hv0 : Value.okWide Tryd.prog W .any base 22 v0) (h0 : DataW.Trod enc Tryd.prog W 0 (fun _ => true) true 22 v0 d0 p0)
    {v1 : Value} {d1 : DataW H} {p1 : List MemPlace} (hv1 : Value.okWide Tryd.prog W .any base 24 v1) (h1 : DataW.Trod enc Tryd.prog W 0 (fun _ => true) true 24 v1 d1 p1)
    (i : Int) (_ : (Lit.int .i64 i).wf = true)
    (W' : World) (hW : W' = W) (hL : laidMetH Tryd.prog Rows.startAgainUptoRow.laid W) {S : Prop} (_ : S) (hbulk : Rows.uptoBulkAll [d0, d1, DataW.lit (.int .i64 i)] ≤ 1048576) :
    Calls Tryd.prog 6 #[v0, v1, .int .i64 i] W' fun e w' => e = .returned (.bool true) ∧ Below W'.heap.size W' w' := by
  subst hW
  obtain ⟨a0, len, cap0, rfl⟩ := WideShapes.okWide_slice Tryd.underlying22 hv0
  obtain ⟨fuel, hf⟩ := h0
  obtain ⟨a, cap, l, ps, hcs, hC, hll, ht⟩ := open_classes hf
  simp only [Value.cells, List.cons.injEq, and_true] at hcs
  rw [hcs]
  obtain ⟨a1, len1, cap1, rfl⟩ := WideShapes.okWide_slice Tryd.underlying24 hv1
  obtain ⟨fuel1, hf1⟩ := h1
  obtain ⟨ua, uc, us, hcs1, hU, hul, hun⟩ := open_strs hf1
  simp only [Value.cells, List.cons.injEq, and_true] at hcs1
  rw [hcs1]
  simp only [Rows.uptoBulkAll, Rows.uptoBulk] at hbulk
  exact startAgain_go l ps a cap us ua uc i W' hC (forms_of_laid hL (by kernel_rfl)) (ht (by omega)) hU (by omega) (fun u hu => by have := hun u hu; omega)
end Go.Proofs.YtokomofjcnefaaaDoor
