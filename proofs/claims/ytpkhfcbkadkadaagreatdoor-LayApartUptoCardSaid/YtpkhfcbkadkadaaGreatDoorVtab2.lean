/-
  The walks of vtab.Slots, vtab.Table.
-/
import Derived.Test.YtpkhfcbkadkadaaGreatDoorVtab1
import Derived.Deep.AppendLies
namespace Go.Proofs.YtpkhfcbkadkadaaGreatDoor
set_option linter.unusedVariables false
set_option linter.unusedSimpArgs false
open Go.RowKit Go.Shelf Go.Lib

def SlotsRes (l : List SlotR) (w : World) (e : Ending) (w' : World) : Prop := (∃ v, e = .returned v ∧ w'.ownsRow w.heap.size 35 3 v l.length (slotsL l)) ∧ Below w.heap.size w w'

theorem fold_succ {α β : Type} {f : β → α → β} {z : β} {l : List α} {k : Nat} {x : α} (hx : l[k]? = some x) : (l.take (k + 1)).foldl f z = f ((l.take k).foldl f z) x := by
  obtain ⟨hk, rfl⟩ := List.getElem?_eq_some_iff.1 hx
  rw [List.take_succ_eq_append_getElem hk, List.foldl_append]
  rfl
theorem meths_at {L : List CP} (x : Nm) : methsAt (CL L) x = (curP L x).1.meths := by
  unfold methsAt
  rw [cur_is]
  cases look (CL L) x with
  | none => rfl
  | some c => rfl

set_option maxRecDepth 100000 in
set_option maxHeartbeats 4000000 in
theorem slots_calls (l : List ClassR) (L : List CP) (b : Nat) (n : Nm) (w : World) (hW : WOk w b l L) (hn : n.length ≤ 1048576) :
    Calls Tryz.prog 29 #[.map (some b), .string ⟨⟨n⟩⟩] w (SlotsRes (slotsM (wl l) n) w) := by
  have HW := Lib.hid hW
  have hcl := Lib.hid hW.cl
  have hg := Lib.hid hW.good
  have hml : (1048576 : Nat) ≤ maxLen := by unfold maxLen; omega
  have hl13 := line_len13 hg.out n
  have HLE := Lib.hid (fun x (h : x ∈ line (wl l) n) => show x.length ≤ 1048576 by
    rcases rc_names hg.out.join ((line_rs hg.out _ _).1 h).rc with e | e
    · rw [e]; exact hn
    · have := good_names20 hg.out e; omega)
  have hpos : 0 < (line (wl l) n).length := by unfold line; simp
  clear hW
  go_enter Tryz.func29, Tryz.ntmps29
  go_wp2_with fail
  refine (line_w HW.out n hn).mono ?_
  rintro e w1 ⟨⟨v, rfl, ho⟩, hb1⟩
  obtain ⟨g, C, rfl, hgB, hgl⟩ := ho.form hpos
  have HRV := Lib.hid (rev_own (line (wl l) n) w.heap.size g C w w1 hb1 hgB ho (by omega))
  clear ho hb1
  go_wp2_with fail
  refine HRV.out.mono ?_
  rintro e w2 ⟨rfl, hb2, ho2, _⟩
  have HB2 := Lib.hid hb2
  have HW2 := Lib.hid (HW.out.below hb2)
  obtain ⟨A2, C2, hv2, hr2⟩ := srow_of_own (A := (line (wl l) n).reverse) (by rw [List.length_reverse]; exact ho2)
  rw [List.length_reverse] at hv2
  simp only [Value.slice.injEq] at hv2
  obtain ⟨rfl, _, rfl⟩ := hv2
  have HR2 := Lib.hid hr2
  have hs2 := hb2.size
  have hrl : (line (wl l) n).length = (line (wl l) n).reverse.length := by rw [List.length_reverse]
  have HSM := Lib.hid (show slotsM (wl l) n = (line (wl l) n).reverse.foldl (addS (wl l)) [] from rfl)
  have HLR := Lib.hid (fun x (h : x ∈ (line (wl l) n).reverse) => HLE.out x (List.mem_reverse.1 h))
  clear hb2 ho2 hr2 HRV HLE
  rw [hrl]
  rw [hrl] at hl13
  clear hpos hrl
  generalize (line (wl l) n).reverse = rl at *
  go_wp2_with fail
  go_loopw [20, 5] (fun i v wr => ∃ (j : Nat) (A : Option Addr) (C' : Nat) (out : List SlotR), j ≤ rl.length ∧ i = .int .i64 j ∧ v = .slice A out.length C' ∧ wr.ownsRow w2.heap.size 35 3 (.slice A out.length C') out.length (slotsL out) ∧ Below w2.heap.size w2 wr ∧ out.length ≤ 8 * j ∧ Hid (out = (rl.take j).foldl (addS (wl l)) [])) (fun i _ _ => rl.length - (RowKit.intOf i).toNat)
  case atStart => exact ⟨0, none, 0, [], by omega, rfl, rfl, World.ownsRow_nil _ _ _ _, Below.refl _ _, by simp, Lib.hid rfl⟩
  case round =>
    obtain ⟨j, A, C', out, hj, rfl, rfl, ho, hb, hol, HA⟩ := hrel
    have HO := Lib.hid ho
    have HB := Lib.hid hb
    have hsz := hb.size
    by_cases hlk : j < rl.length
    · obtain ⟨x, hx⟩ : ∃ x, rl[j]? = some x := ⟨_, List.getElem?_eq_getElem hlk⟩
      obtain ⟨b1, off, hbo, hlt, c0⟩ := strs_cell (HR2.out.below hb) hx
      simp only [Option.some.injEq, Addr.mk.injEq] at hbo
      obtain ⟨rfl, rfl, _⟩ := hbo
      have hxl := HLR.out x (List.mem_of_getElem? hx)
      have hlkx := cur_look (n := x) (HW2.out.below hb).at_ (Nat.le_trans hxl hml)
      have hmb := (cur_bounds HW.out x).2.2.2.2
      have HX := Lib.hid hx
      have HMA := Lib.hid (cur_at HW2.out.at_ x).2.2
      have HME := Lib.hid (meths_at (L := L) x)
      rw [hcl.out] at HME
      have HF := Lib.hid (fold_succ (f := addS (wl l)) (z := []) hx)
      rw [Nat.zero_add] at c0
      clear hb hx ho
      obtain ⟨w3, hw3⟩ : ∃ w3, w3 = wr := ⟨wr, rfl⟩
      subst hw3
      generalize curP L x = cx at *
      obtain ⟨cc, ⟨fa, fc, ga, gc, ma, mc, pms⟩⟩ := cx
      dsimp only at *
      go_wp2_with fail
      go_loopw [29, 5] (fun i v wr => ∃ (k : Nat) (A2 : Option Addr) (C2 : Nat) (out2 : List SlotR), k ≤ cc.meths.length ∧ i = .int .i64 k ∧ v = .slice A2 out2.length C2 ∧ wr.ownsRow w2.heap.size 35 3 (.slice A2 out2.length C2) out2.length (slotsL out2) ∧ Below w2.heap.size w2 wr ∧ out2.length ≤ 8 * j + k ∧ Hid (out2 = (cc.meths.take k).foldl (stepS x) out)) (fun i _ _ => cc.meths.length - (RowKit.intOf i).toNat)
      case atStart => exact ⟨0, A, C', out, by omega, rfl, rfl, HO.out, HB.out, by omega, Lib.hid rfl⟩
      case round =>
        obtain ⟨k, A2, C2, out2, hk, rfl, rfl, ho, hb, hol2, HA2⟩ := hrel
        have HO2 := Lib.hid ho
        have HBQ := Lib.hid hb
        have hsq := hb.size
        by_cases hkm : k < cc.meths.length
        · obtain ⟨m, hm⟩ : ∃ m, cc.meths[k]? = some m := ⟨_, List.getElem?_eq_getElem hkm⟩
          obtain ⟨b3, off3, q, hma, hlt3, hq, hmm, c0, c1, c2, c3, c4, c5, c6, c7⟩ := (HMA.out.below hb).cells hm
          have HX2 := Lib.hid hm
          have HF2 := Lib.hid (fold_succ (f := stepS x) (z := out) hm)
          obtain ⟨sa, sc, hsv, hss⟩ := slots_of_own ho
          simp only [Value.slice.injEq] at hsv
          obtain ⟨rfl, _, rfl⟩ := hsv
          have HSS := Lib.hid hss
          subst hma
          clear hb hm hq hmm ho hss
          obtain ⟨mn, mt, mst, mab, mpr, mlo, mco, mhs⟩ := m
          dsimp only at *
          cases mst with
          | true =>
            have HN := Lib.hid (show out2 = (cc.meths.take (k + 1)).foldl (stepS x) out by rw [HF2.out, ← HA2.out]; rfl)
            go_wp2_with fail
            go_roundw
            case rel => exact ⟨k + 1, _, _, out2, by omega, by go_num, rfl, HO2.out.alloc _, HBQ.out.alloc hsq _, by omega, HN⟩
            case measure => simp [RowKit.intOf]; omega
          | false =>
            cases mpr with
            | true =>
              have HN := Lib.hid (show out2 = (cc.meths.take (k + 1)).foldl (stepS x) out by rw [HF2.out, ← HA2.out]; rfl)
              go_wp2_with fail
              go_roundw
              case rel => exact ⟨k + 1, _, _, out2, by omega, by go_num, rfl, HO2.out.alloc _, HBQ.out.alloc hsq _, by omega, HN⟩
              case measure => simp [RowKit.intOf]; omega
            | false =>
              have HN := Lib.hid (show (cc.meths.take (k + 1)).foldl (stepS x) out = putS out2 ⟨mn, mt, x⟩ by rw [HF2.out, ← HA2.out]; rfl)
              have hbw := ((Below.refl wr.heap.size wr).alloc (Nat.le_refl _) (.cells #[.string ⟨⟨mn⟩⟩, .string ⟨⟨mt⟩⟩, .bool false, .bool mab, .bool false, .int .i64 mlo, .slice q.ca mco.length q.cc, .slice q.ha mhs.length q.hc] 45)).alloc (by simp) (.cells #[.string ⟨⟨mn⟩⟩, .string ⟨⟨mt⟩⟩, .string ⟨⟨x⟩⟩] 35)
              have HIX := Lib.hid (indexSlot out2 _ _ ((wr.alloc (.cells #[.string ⟨⟨mn⟩⟩, .string ⟨⟨mt⟩⟩, .bool false, .bool mab, .bool false, .int .i64 mlo, .slice q.ca mco.length q.cc, .slice q.ha mhs.length q.hc] 45)).alloc (.cells #[.string ⟨⟨mn⟩⟩, .string ⟨⟨mt⟩⟩, .string ⟨⟨x⟩⟩] 35)) #[.pointer (some ⟨wr.heap.size, 0, none⟩)] (sHit mn mt) (HSS.out.below hbw) (by omega) (fun k' x' _ => sameSlot x' mn mt wr.heap.size _ (by simp; omega)
                (((blk_new wr wr.heap.size 45 #[.string ⟨⟨mn⟩⟩, .string ⟨⟨mt⟩⟩, .bool false, .bool mab, .bool false, .int .i64 mlo, .slice q.ca mco.length q.cc, .slice q.ha mhs.length q.hc] rfl).below ((Below.refl _ _).alloc (Nat.le_refl _) (.cells #[.string ⟨⟨mn⟩⟩, .string ⟨⟨mt⟩⟩, .string ⟨⟨x⟩⟩] 35))).cell 0)
                (((blk_new wr wr.heap.size 45 #[.string ⟨⟨mn⟩⟩, .string ⟨⟨mt⟩⟩, .bool false, .bool mab, .bool false, .int .i64 mlo, .slice q.ca mco.length q.cc, .slice q.ha mhs.length q.hc] rfl).below ((Below.refl _ _).alloc (Nat.le_refl _) (.cells #[.string ⟨⟨mn⟩⟩, .string ⟨⟨mt⟩⟩, .string ⟨⟨x⟩⟩] 35))).cell 1)))
              have HBW := Lib.hid hbw
              clear hbw
              go_wp2_with fail
              refine HIX.out.mono ?_
              rintro e w5 ⟨⟨i, hi, hil, rfl⟩ | ⟨hi, rfl⟩, hb5⟩
              · have HP := Lib.hid (show (cc.meths.take (k + 1)).foldl (stepS x) out = out2.set i ⟨mn, mt, x⟩ by rw [HN.out]; unfold putS; rw [hi]; rfl)
                have hb5' := bl_trans HBW.out hb5
                have HB5 := Lib.hid (HBQ.out.trans (hb5'.mono hsq))
                have ho5 := own_below HO2.out hb5'
                obtain ⟨g5, c5', hv5, hg5, hgl5⟩ := ho5.form (by omega)
                simp only [Value.slice.injEq] at hv5
                obtain ⟨rfl, _, rfl⟩ := hv5
                have hi3 : i * 3 + 2 < out2.length * 3 := by omega
                obtain ⟨x0, hx0⟩ : ∃ x0, out2[i]? = some x0 := ⟨_, List.getElem?_eq_getElem hil⟩
                obtain ⟨b6, off6, hq6, hlt6, k0, k1, k2⟩ := (HSS.out.below hb5').cells hx0
                simp only [Option.some.injEq, Addr.mk.injEq] at hq6
                obtain ⟨rfl, rfl, _⟩ := hq6
                rw [Nat.zero_add] at k0 k1 k2
                have f0 := ho5.frozenAt (i * 3)
                have f1 := ho5.frozenAt (i * 3 + 1)
                have f2 := ho5.frozenAt (i * 3 + 2)
                have HO5 := Lib.hid ho5
                have hsb := ((blk_new (wr.alloc (.cells #[.string ⟨⟨mn⟩⟩, .string ⟨⟨mt⟩⟩, .bool false, .bool mab, .bool false, .int .i64 mlo, .slice q.ca mco.length q.cc, .slice q.ha mhs.length q.hc] 45)) (wr.heap.size + 1) 35 #[.string ⟨⟨mn⟩⟩, .string ⟨⟨mt⟩⟩, .string ⟨⟨x⟩⟩] (by simp)).below hb5)
                have e0 := hsb.cell 0
                have e1 := hsb.cell 1
                have e2 := hsb.cell 2
                have hi0 : (0 : Int) ≤ (i : Int) := Int.natCast_nonneg _
                have hii : (i : Int) < (out2.length : Int) := by omega
                clear hi hb5 hb5' ho5 hx0 hsb c0 c1 c2 c3 c4 c5 c6 c7
                go_wp2_with fail
                go_roundw
                case rel =>
                  refine ⟨k + 1, _, C2, out2.set i ⟨mn, mt, x⟩, by omega, by go_num, by rw [List.length_set], ?_, ((HB5.out.setCell hg5 _).setCell hg5 _).setCell hg5 _, by rw [List.length_set]; omega, Lib.hid HP.out.symm⟩
                  rw [List.length_set, ← slotsL_set out2 i ⟨mn, mt, x⟩ hil]
                  exact ((((HO5.out.stored (i * 3) _).1).stored (i * 3 + 1) _).1.stored (i * 3 + 2) _).1
                case measure => simp [RowKit.intOf]; omega
              · have HP := Lib.hid (show (cc.meths.take (k + 1)).foldl (stepS x) out = out2 ++ [(⟨mn, mt, x⟩ : SlotR)] by rw [HN.out]; unfold putS; rw [hi]; rfl)
                have hb5' := bl_trans HBW.out hb5
                have HB5 := Lib.hid (HBQ.out.trans (hb5'.mono hsq))
                have hs5 := HB5.out.size
                have HO5 := Lib.hid (own_below HO2.out hb5')
                have hsb := ((blk_new (wr.alloc (.cells #[.string ⟨⟨mn⟩⟩, .string ⟨⟨mt⟩⟩, .bool false, .bool mab, .bool false, .int .i64 mlo, .slice q.ca mco.length q.cc, .slice q.ha mhs.length q.hc] 45)) (wr.heap.size + 1) 35 #[.string ⟨⟨mn⟩⟩, .string ⟨⟨mt⟩⟩, .string ⟨⟨x⟩⟩] (by simp)).below hb5)
                have e0 := hsb.cell 0
                have e1 := hsb.cell 1
                have e2 := hsb.cell 2
                clear hi hb5 hb5' hsb c0 c1 c2 c3 c4 c5 c6 c7
                go_wp2_with (at_builtin; refine wpList_append_one rowSlot rfl _ _ rfl w2.heap.size _ out2.length (slotsL out2) rfl ?c0 (slotCells ⟨mn, mt, x⟩) rfl ?c1 _ rfl ?cg ?c2 ?c3 ?c4 ?_)
                case c0 => exact HO5.out
                case c1 => exact slotCells_one _
                case cg => rfl
                case c2 => omega
                case c3 => omega
                case c4 => exact hs5
                intro v6 w6 ho6 hg6
                have HB6 := Lib.hid (HB5.out.trans (grown_below hs5 HO5.out hg6))
                have ho7 : w6.ownsRow w2.heap.size 35 3 v6 (out2 ++ [(⟨mn, mt, x⟩ : SlotR)]).length (slotsL (out2 ++ [(⟨mn, mt, x⟩ : SlotR)])) := by
                  rw [List.length_append, List.length_singleton, slotsL_snoc]; exact ho6
                obtain ⟨A7, C7, rfl, _⟩ := slice_of_own ho7
                have HO7 := Lib.hid ho7
                clear ho6 hg6 ho7
                go_wp2_with fail
                go_roundw
                case rel => exact ⟨k + 1, A7, C7, out2 ++ [(⟨mn, mt, x⟩ : SlotR)], by omega, by go_num, rfl, HO7.out, HB6.out, by simp; omega, Lib.hid HP.out.symm⟩
                case measure => simp [RowKit.intOf]; omega
        · obtain rfl : k = cc.meths.length := by omega
          have HE := Lib.hid (show out2 = (rl.take (j + 1)).foldl (addS (wl l)) [] by rw [HF.out, ← HA.out, HA2.out, List.take_length]; unfold addS; rw [HME.out])
          clear hb ho
          go_wp2_with fail
          go_roundw
          case rel => exact ⟨j + 1, A2, C2, out2, by omega, by go_num, rfl, HO2.out, HBQ.out, by omega, HE⟩
          case measure => simp [RowKit.intOf]; omega
    · obtain rfl : j = rl.length := by omega
      have HE := Lib.hid (show slotsM (wl l) n = out by rw [HSM.out, HA.out, List.take_length])
      clear hb ho
      go_wp2_with fail
      go_ret
      exact ⟨⟨_, rfl, by rw [HE.out]; exact own_down HO.out hs2⟩, HB2.out.trans (HB.out.mono hs2)⟩

def TabRes (err : Int) (S : List SlotR) (w : World) (e : Ending) (w' : World) : Prop :=
  Below w.heap.size w w' ∧ ((err ≠ 0 ∧ e = .returned (.tuple #[.slice none 0 0, errV err])) ∨
    (err = 0 ∧ ∃ a cap, e = .returned (.tuple #[.slice a S.length cap, .nilIface]) ∧ SlotsAt w' a cap S))

set_option maxRecDepth 100000 in
set_option maxHeartbeats 1000000 in
theorem table_calls (l : List ClassR) (ps : List CAddr) (a : Option Addr) (cap : Nat) (n : Nm) (w : World) (hC : ClassesAt w a cap l ps) (hF : FormsAt w) (hB : ClsOk l) (hn : n.length ≤ 1048576) :
    Calls Tryz.prog 10 #[.slice a l.length cap, .string ⟨⟨n⟩⟩] w (TabRes (withErr l n) (slotsM (wl l) n) w) := by
  have HR := Lib.hid (with_w l ps a cap n w hC hF hB hn)
  clear hC hF hB
  go_enter Tryz.func10, Tryz.ntmps10
  go_wp2_with fail
  refine HR.out.mono ?_
  rintro e w2 ⟨hb2, ⟨hne, rfl⟩ | ⟨h0, _, b, rfl, hw⟩⟩
  · have HB2 := Lib.hid hb2
    have HNE := Lib.hid hne
    clear hb2
    generalize withErr l n = m at *
    clear hne
    go_wp2_with fail
    go_ret2
    exact ⟨HB2.out, Or.inl ⟨HNE.out, rfl⟩⟩
  · have HB2 := Lib.hid hb2
    have H0 := Lib.hid h0
    have HS := Lib.hid (slots_calls l (wcp l ps) b n w2 hw hn)
    clear hb2 h0 hw
    go_wp2_with fail
    refine HS.out.mono ?_
    rintro e w3 ⟨⟨v, rfl, ho⟩, hb3⟩
    obtain ⟨a3, c3, rfl, hs3⟩ := slots_of_own ho
    have HB3 := Lib.hid (bl_trans HB2.out hb3)
    have HS3 := Lib.hid hs3
    clear hb3 ho hs3
    go_wp2_with fail
    go_ret2
    exact ⟨HB3.out, Or.inr ⟨H0.out, a3, c3, rfl, HS3.out⟩⟩
end Go.Proofs.YtpkhfcbkadkadaaGreatDoor
