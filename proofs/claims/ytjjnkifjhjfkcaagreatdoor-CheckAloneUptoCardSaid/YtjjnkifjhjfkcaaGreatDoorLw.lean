/-
  CheckAlone: the walk of the law.
-/
import Derived.Test.YtjjnkifjhjfkcaaGreatDoorCe
import Derived.Test.YtjjnkifjhjfkcaaGreatDoorWc
import Derived.Test.YtjjnkifjhjfkcaaGreatDoorFrame
namespace Go.Proofs.YtjjnkifjhjfkcaaGreatDoor
set_option linter.unusedVariables false
set_option linter.unusedSimpArgs false
open Go.RowKit Go.Shelf Go.Lib

theorem find_own2 {l : List ClassR} (hg : Good l) {k j : Nat} {c : ClassR} (hc : l[k]? = some c) (hj : j < c.meths.length) : l.find? (hasAt c.nm (j : Int)) = some c := by
  refine find_at2 (fun y hy => ?_) hc ?_
  · have h1 := hg.new k c hc
    have h2 : y.nm ≠ c.nm := fun e => h1 (by
      unfold names wl
      rw [List.map_cons, List.map_cons]
      exact List.mem_cons_of_mem _ (List.mem_cons_of_mem _ (List.mem_map.2 ⟨y, hy, e⟩)))
    unfold hasAt
    rw [beq_eq_false_iff_ne.2 h2]; rfl
  · unfold hasAt
    rw [beq_self_eq_true, decide_eq_true (by omega : (0 : Int) ≤ (j : Int)), decide_eq_true (by omega : (j : Int) < (c.meths.length : Int))]
    rfl
theorem mtErr_at {l : List ClassR} (hg : Good l) {k j : Nat} {c : ClassR} {m : MethR} (hc : l[k]? = some c) (hm : c.meths[j]? = some m) : mtErr l c.nm (j : Int) = if m.abst = true then 1 else if mBad (wl l) c.nm m = true then 7 else 0 := by
  have hj := (List.getElem?_eq_some_iff.1 hm).1
  have hf := find_own2 hg hc hj
  have hn : namErr l c.nm (j : Int) = if m.abst = true then 1 else 0 := by
    unfold namErr
    rw [if_neg (by simp [good_read hg]), hf]
    simp only [Option.elim_some, Int.toNat_natCast]
    rw [hm]; rfl
  unfold mtErr
  cases ha : m.abst with
  | true =>
    rw [ha] at hn
    simp only [if_true] at hn
    rw [hn]; simp
  | false =>
    rw [ha] at hn
    simp only [Bool.false_eq_true, if_false] at hn
    rw [hn, if_neg (by simp), hf]
    simp only [Option.elim_some, Int.toNat_natCast]
    rw [hm]
    simp only [Option.elim_some, Bool.false_eq_true, if_false]
    unfold mBad
    rw [ha]; simp
theorem all_snoc {α : Type} {q : α → Bool} {l : List α} {k : Nat} {x : α} (hx : l[k]? = some x) : (l.take (k + 1)).all q = ((l.take k).all q && q x) := by
  rw [List.take_add_one, hx, List.all_append]
  simp
theorem all_not_any {α : Type} {q : α → Bool} (l : List α) : l.all (fun x => !q x) = !l.any q := by
  induction l with
  | nil => rfl
  | cons x r ih => rw [List.all_cons, List.any_cons, ih]; cases q x <;> simp

theorem nil_form (W : World) : (binOp BinOp.eql 25 .nilIface (.iface 39 (.int .i64 1))).run Tryz.prog W = .ok (.bool false) W := by kernel_rfl
set_option maxRecDepth 100000 in
set_option maxHeartbeats 8000000 in
theorem checkAlone_go (l : List ClassR) (ps : List CAddr) (a : Option Addr) (cap : Nat) (w : World) (hC : ClassesAt w a cap l ps) (hF : FormsAt w) (hB : ClsOk l) :
    Calls Tryz.prog 3 #[.slice a l.length cap] w fun e w' => e = .returned (.bool true) ∧ Below w.heap.size w w' := by
  have HC := Lib.hid hC
  have HF := Lib.hid hF
  have HB := Lib.hid hB
  have HCW := Lib.hid (fun W (hw : Below w.heap.size w W) => cworld_calls l ps a cap W (hC.below hw) (hF.below hw) hB (tyB_of hB))
  clear hC hF hB
  go_enter Tryz.func3, Tryz.ntmps3
  go_wp2_with fail
  refine (named_true _).mono ?_
  rintro e w1 ⟨rfl, hb1⟩
  have HB1 := Lib.hid hb1
  have HK1 := Lib.hid (wcheck_calls l ps a cap w1 (HC.out.below hb1) (HF.out.below hb1) HB.out)
  clear hb1
  go_wp2_with fail
  refine HK1.out.mono ?_
  rintro e w2 ⟨rfl, hb2⟩
  have HB2 := Lib.hid (bl_trans HB1.out hb2)
  have HCW2 := Lib.hid (HCW.out _ HB2.out)
  clear hb2 HK1
  by_cases hr1 : readErr l = 0
  case neg =>
    have hck : ckErr l = readErr l := by unfold ckErr; rw [if_pos hr1]
    rw [hck, errOf_ne hr1] at HCW2
    rw [errOf_ne hr1]
    generalize readErr l = z at *
    clear hr1 hck
    go_wp2_with fail
    refine HCW2.out.mono ?_
    rintro e w3 ⟨rfl, hb3⟩
    have HB3 := Lib.hid (bl_trans HB2.out hb3)
    clear hb3
    go_wp2_with fail
    go_ret
    exact ⟨rfl, HB3.out⟩
  case pos =>
    have HG := Lib.hid ((readErr_zero l).1 hr1)
    have hll : l.length ≤ 10 := HG.out.len
    have HCK := Lib.hid (show ckErr l = if l.any (cBad (wl l)) = true then 7 else 0 by unfold ckErr; rw [if_neg (by simp [hr1])])
    rw [hr1, errOf_zero]
    clear hr1 HCW2
    go_wp2_with fail
    go_loopw [4, 5] (fun v i wr => ∃ (k : Nat) (q : Bool), k ≤ l.length ∧ i = .int .i64 k ∧ v = .bool q ∧ Below w.heap.size w wr ∧ Hid (q = (l.take k).all (fun c => !cBad (wl l) c))) (fun _ i _ => l.length - (RowKit.intOf i).toNat)
    case atStart => exact ⟨0, true, by omega, rfl, rfl, HB2.out, Lib.hid (by simp)⟩
    case round =>
      obtain ⟨k, q, hk, rfl, rfl, hb, HQ⟩ := hrel
      have HBr := Lib.hid hb
      by_cases hlk : k < l.length
      · obtain ⟨c, hx⟩ : ∃ c, l[k]? = some c := ⟨_, List.getElem?_eq_getElem hlk⟩
        have hcm := List.mem_of_getElem? hx
        obtain ⟨b1, off, p, hpa, hlt, hp, hca, d0, d1, d2, d3, d4, d5⟩ := (HC.out.below hb).cells hx
        have HKL := Lib.hid hlk
        have hkll : k < 10 := by omega
        have HX := Lib.hid hx
        have HCA := Lib.hid hca
        have hml := (HB.out c hcm).1.meths
        have hnl : c.nm.length ≤ 20 := (good_cls HG.out (show c ∈ wl l by unfold wl; simp [hcm])).1
        subst hpa
        have hj0 : (0 : Int) ≤ (k : Int) := Int.natCast_nonneg _
        have hji : (k : Int) < (l.length : Int) := by omega
        have HD := Lib.hid (fun W (hw : Below wr.heap.size wr W) => (show W.cell? ⟨b1, off + k * 6, none⟩ = some (.string ⟨⟨c.nm⟩⟩) ∧ W.cell? ⟨b1, off + k * 6 + 5, none⟩ = some (.slice p.ma c.meths.length p.mc) from ⟨(hw.cell (p := ⟨b1, off + k * 6, none⟩) hlt).trans d0, (hw.cell (p := ⟨b1, off + k * 6 + 5, none⟩) hlt).trans d5⟩))
        clear hx hp hca hb hcm d0 d1 d2 d3 d4 d5
        go_wp2_with fail
        go_loopw [4, 6] (fun v j wq => ∃ (t : Nat) (q2 : Bool), t ≤ c.meths.length ∧ j = .int .i64 t ∧ v = .bool q2 ∧ Below wr.heap.size wr wq ∧ Hid (q2 = (q && (c.meths.take t).all (fun m => !mBad (wl l) c.nm m)))) (fun _ j _ => c.meths.length - (RowKit.intOf j).toNat)
        case atStart => exact ⟨0, q, by omega, rfl, rfl, Below.refl _ _, Lib.hid (by simp)⟩
        case round =>
          obtain ⟨t, q2, ht, rfl, rfl, hb, HQ2⟩ := hrel
          have HBq := Lib.hid hb
          have HBq2 := Lib.hid (bl_trans HBr.out hb)
          obtain ⟨f0, f5⟩ := HD.out _ hb
          by_cases hlt2 : t < c.meths.length
          · obtain ⟨m, hm⟩ : ∃ m, c.meths[t]? = some m := ⟨_, List.getElem?_eq_getElem hlt2⟩
            obtain ⟨bm, offm, qm, hqa, hltm, hqq, hma, e0, e1, e2, e3, e4, e5, e6, e7⟩ := (HCA.out.2.2.below hb).cells hm
            have HMT := Lib.hid (mtErr_at HG.out HX.out hm)
            have HQ3 := Lib.hid (all_snoc (q := fun m => !mBad (wl l) c.nm m) hm)
            have HME := Lib.hid (cmethod_calls l ps (some ⟨b1, off, none⟩) cap c.nm (t : Int) wr (HC.out.below HBq2.out) (HF.out.below HBq2.out) HB.out (tyB_of HB.out) (by omega))
            have HE3 := Lib.hid (fun W (hw : Below wr.heap.size wr W) => (show W.cell? ⟨bm, offm + t * 8 + 3, none⟩ = some (.bool m.abst) from (hw.cell (p := ⟨bm, offm + t * 8 + 3, none⟩) hltm).trans e3))
            have hj0' : (0 : Int) ≤ (t : Int) := Int.natCast_nonneg _
            have hji' : (t : Int) < (c.meths.length : Int) := by omega
            rw [hqa] at f5
            clear hm hqq hma hb e0 e1 e2 e4 e5 e6 e7
            rw [HMT.out] at HME
            have hnf := nil_form
            cases hab : m.abst with
            | true =>
              rw [if_pos hab, errOf_ne (show (1 : Int) ≠ 0 by omega)] at HME
              have HN := Lib.hid (fun q3 (h : q3 = (q2 && true)) => show q3 = (q && (c.meths.take (t + 1)).all (fun m => !mBad (wl l) c.nm m)) by rw [HQ3.out, ← Bool.and_assoc, ← HQ2.out, h, mBad_abst hab, Bool.not_false])
              have HAB := Lib.hid hab
              rw [hab] at HE3 e3
              clear hab
              go_wp2_with fail
              refine HME.out.mono ?_
              rintro e w5 ⟨⟨vv, rfl⟩, hb5⟩
              have HB5 := Lib.hid (bl_trans HBq.out hb5)
              have g3 := HE3.out _ hb5
              obtain ⟨f0', f5'⟩ := HD.out _ HB5.out
              rw [hqa] at f5'
              clear hb5
              go_upto_region 14 with fail
              go_region
              cases q2 with
              | true =>
                go_wp2_with fail
                go_roundw
                case rel => exact ⟨t + 1, true, by omega, by go_num, rfl, HB5.out.drew, Lib.hid (HN.out _ (by rfl))⟩
                case measure => simp [RowKit.intOf]; omega
              | false =>
                go_wp2_with fail
                go_roundw
                case rel => exact ⟨t + 1, false, by omega, by go_num, rfl, HB5.out.drew, Lib.hid (HN.out _ (by rfl))⟩
                case measure => simp [RowKit.intOf]; omega
            | false =>
              rw [if_neg (by rw [hab]; simp)] at HME
              cases hbd : mBad (wl l) c.nm m with
              | true =>
                rw [hbd, if_pos rfl, errOf_ne (show (7 : Int) ≠ 0 by omega)] at HME
                have HN := Lib.hid (fun q3 (h : q3 = (q2 && false)) => show q3 = (q && (c.meths.take (t + 1)).all (fun m => !mBad (wl l) c.nm m)) by rw [HQ3.out, ← Bool.and_assoc, ← HQ2.out, h, hbd, Bool.not_true])
                rw [hab] at HE3 e3
                clear hab hbd
                go_wp2_with fail
                refine HME.out.mono ?_
                rintro e w5 ⟨⟨vv, rfl⟩, hb5⟩
                have HB5 := Lib.hid (bl_trans HBq.out hb5)
                have g3 := HE3.out _ hb5
                obtain ⟨f0', f5'⟩ := HD.out _ HB5.out
                rw [hqa] at f5'
                clear hb5
                go_upto_region 14 with fail
                go_region
                cases q2 with
                | true =>
                  go_wp2_with fail
                  go_roundw
                  case rel => exact ⟨t + 1, false, by omega, by go_num, rfl, HB5.out.drew, Lib.hid (HN.out _ (by rfl))⟩
                  case measure => simp [RowKit.intOf]; omega
                | false =>
                  go_wp2_with fail
                  go_roundw
                  case rel => exact ⟨t + 1, false, by omega, by go_num, rfl, HB5.out.drew, Lib.hid (HN.out _ (by rfl))⟩
                  case measure => simp [RowKit.intOf]; omega
              | false =>
                rw [hbd, if_neg (by simp), errOf_zero] at HME
                have HN := Lib.hid (fun q3 (h : q3 = (q2 && true)) => show q3 = (q && (c.meths.take (t + 1)).all (fun m => !mBad (wl l) c.nm m)) by rw [HQ3.out, ← Bool.and_assoc, ← HQ2.out, h, hbd, Bool.not_false])
                rw [hab] at HE3 e3
                clear hab hbd
                go_wp2_with fail
                refine HME.out.mono ?_
                rintro e w5 ⟨⟨vv, rfl⟩, hb5⟩
                have HB5 := Lib.hid (bl_trans HBq.out hb5)
                have g3 := HE3.out _ hb5
                obtain ⟨f0', f5'⟩ := HD.out _ HB5.out
                rw [hqa] at f5'
                clear hb5
                go_upto_region 14 with fail
                go_region
                cases q2 with
                | true =>
                  go_wp2_with fail
                  go_roundw
                  case rel => exact ⟨t + 1, true, by omega, by go_num, rfl, HB5.out.drew, Lib.hid (HN.out _ (by rfl))⟩
                  case measure => simp [RowKit.intOf]; omega
                | false =>
                  go_wp2_with fail
                  go_roundw
                  case rel => exact ⟨t + 1, false, by omega, by go_num, rfl, HB5.out.drew, Lib.hid (HN.out _ (by rfl))⟩
                  case measure => simp [RowKit.intOf]; omega
          · obtain rfl : t = c.meths.length := by omega
            have HQ9 := Lib.hid (show q2 = (l.take (k + 1)).all (fun c => !cBad (wl l) c) by
              rw [all_snoc HX.out, HQ2.out, HQ.out, List.take_length, all_not_any, all_not_any]; rfl)
            clear hb
            go_wp2_with fail
            go_roundw
            case rel => exact ⟨k + 1, q2, by have := HKL.out; omega, by go_num, rfl, HBq2.out, HQ9⟩
            case measure => have := HKL.out; simp [RowKit.intOf]; omega
      · obtain rfl : k = l.length := by omega
        have HCW3 := Lib.hid (HCW.out _ HBr.out)
        rw [HCK.out] at HCW3
        have HQ9 := Lib.hid (show q = !l.any (cBad (wl l)) by rw [HQ.out, List.take_length, all_not_any])
        clear hb
        cases hany : l.any (cBad (wl l)) with
        | true =>
          rw [hany, if_pos rfl, errOf_ne (by omega)] at HCW3
          have hqv : q = false := by rw [HQ9.out, hany]; rfl
          subst hqv
          clear hany
          go_wp2_with fail
          refine HCW3.out.mono ?_
          rintro e w9 ⟨rfl, hb9⟩
          have HB9 := Lib.hid (bl_trans HBr.out hb9)
          clear hb9
          go_wp2_with fail
          go_ret
          exact ⟨rfl, HB9.out⟩
        | false =>
          rw [hany, if_neg (by simp), errOf_zero] at HCW3
          have hqv : q = true := by rw [HQ9.out, hany]; rfl
          subst hqv
          clear hany
          go_wp2_with fail
          refine HCW3.out.mono ?_
          rintro e w9 ⟨rfl, hb9⟩
          have HB9 := Lib.hid (bl_trans HBr.out hb9)
          clear hb9
          go_wp2_with fail
          go_ret
          exact ⟨rfl, HB9.out⟩

set_option maxRecDepth 100000 in
theorem checkAlone.walk {H : Type} {enc : TypeId × Value → H} {W : World} {base : Nat}
    {v0 : Value} {d0 : DataW H} {p0 : List MemPlace} (hv0 : Value.okWide Tryz.prog W .any base 22 v0) (h0 : DataW.Trod enc Tryz.prog W 0 (fun _ => true) true 22 v0 d0 p0)
    (W' : World) (hW : W' = W) (hL : laidMetH Tryz.prog Rows.checkAloneUptoRow.laid W) {S : Prop} (_ : S) (hbulk : Rows.uptoBulkAll [d0] ≤ 1048576) :
    Calls Tryz.prog 3 #[v0] W' fun e w' => e = .returned (.bool true) ∧ Below W'.heap.size W' w' := by
  subst hW
  obtain ⟨a0, len0, cap0, rfl⟩ := WideShapes.okWide_slice Tryz.underlying22 hv0
  obtain ⟨fuel0, hf0⟩ := h0
  obtain ⟨aa0, cc0, l0, ps0, hcs0, hC0, hll0, ht0⟩ := open_classes hf0
  simp only [Value.cells, List.cons.injEq, and_true] at hcs0
  rw [hcs0]
  simp only [Rows.uptoBulkAll, Rows.uptoBulk] at hbulk
  exact checkAlone_go l0 ps0 aa0 cc0 W' hC0 (forms_of_laid hL (by kernel_rfl)) (ht0 (by omega))
end Go.Proofs.YtjjnkifjhjfkcaaGreatDoor
