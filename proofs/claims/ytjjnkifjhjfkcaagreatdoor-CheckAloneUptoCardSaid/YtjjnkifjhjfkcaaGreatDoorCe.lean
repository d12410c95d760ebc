/-
  The walks of check.Named and check.Method.
  The walk of check.Method: what is wrong with a method.
-/
import Derived.Test.YtjjnkifjhjfkcaaGreatDoorCd
namespace Go.Proofs.YtjjnkifjhjfkcaaGreatDoor
set_option linter.unusedVariables false
set_option linter.unusedSimpArgs false
open Go.RowKit Go.Shelf Go.Lib

/-- the method of a class at a place: the first class of that name that has one there -/
def hasAt (c : Nm) (z : Int) (d : ClassR) : Bool := d.nm == c && (decide (0 ≤ z) && decide (z < (d.meths.length : Int)))
noncomputable def namErr (l : List ClassR) (c : Nm) (z : Int) : Int :=
  if readErr l ≠ 0 then readErr l else (l.find? (hasAt c z)).elim 3 fun d => (d.meths[z.toNat]?).elim 3 fun m => if m.abst = true then 1 else 0
def NamRes (l : List ClassR) (ps : List CAddr) (c : Nm) (z : Int) (w : World) (e : Ending) (w' : World) : Prop :=
  Below w.heap.size w w' ∧ ((namErr l c z ≠ 0 ∧ e = .returned (.tuple #[.map none, methV zeroMR nilM, errV (namErr l c z)])) ∨
    ∃ b d m q, namErr l c z = 0 ∧ d ∈ l ∧ l.find? (hasAt c z) = some d ∧ d.meths[z.toNat]? = some m ∧ m.abst = false ∧ e = .returned (.tuple #[.map (some b), methV m q, .nilIface]) ∧ WOk w' b l (wcp l ps) ∧ MethAt w' m q)
theorem find_at2 {α : Type} {q : α → Bool} : ∀ {l : List α} {k : Nat} {x : α}, (∀ y ∈ l.take k, q y = false) → l[k]? = some x → q x = true → l.find? q = some x
  | [], k, x, _, h, _ => by simp at h
  | y :: r, 0, x, _, h, h2 => by
    simp only [List.getElem?_cons_zero, Option.some.injEq] at h
    subst h
    simp [h2]
  | y :: r, k + 1, x, h0, h, h2 => by
    have hy := h0 y (by simp)
    rw [List.find?_cons_of_neg (by simp [hy])]
    exact find_at2 (k := k) (fun z hz => h0 z (by simp [hz])) (by simpa using h) h2
theorem find_none2 {α : Type} {q : α → Bool} {l : List α} (h : ∀ y ∈ l, q y = false) : l.find? q = none := by
  rw [List.find?_eq_none]
  intro y hy
  simp [h y hy]

/-- a world stays right where one block of cells is written that is none of the classes' -/
theorem WOk.but {w2 W2 w : World} {b g cap : Nat} {l : List ClassR} {ps : List CAddr} {a : Option Addr} {cs : Array Value} {T : TypeId} (h : WOk w2 b l (wcp l ps)) (hg : w2.grownBy W2 (some g)) (hc : Blk w2 g T cs) (hC : ClassesAt w a cap l ps) (hb : Below w.heap.size w W2) : WOk W2 b l (wcp l ps) := by
  refine ⟨⟨h.at_.1.kept (hg.block b h.at_.1.lt (fun e => ?_)), cls_all hC hb⟩, h.cl, h.good⟩
  obtain ⟨es, clock, h1, _⟩ := h.at_.1
  cases e
  rw [show w2.heap[b]? = some (.cells cs T (0, 0)) from hc] at h1
  simp at h1

set_option maxRecDepth 100000 in
set_option maxHeartbeats 8000000 in
theorem named_calls (l : List ClassR) (ps : List CAddr) (a : Option Addr) (cap : Nat) (c : Nm) (z : Int) (w : World) (hC : ClassesAt w a cap l ps) (hF : FormsAt w) (hB : ClsOk l) :
    Calls Tryz.prog 20 #[.slice a l.length cap, .string ⟨⟨c⟩⟩, .int .i64 z] w (NamRes l ps c z w) := by
  have HC := Lib.hid hC
  have HF := Lib.hid hF
  have HBD := Lib.hid hB
  have HB0 := Lib.hid (fun o => bl_alloc (Below.refl w.heap.size w) o)
  have HR := Lib.hid (fun o => read_w l ps a cap (w.alloc o) (hC.below (bl_alloc (Below.refl _ _) _)) (hF.below (bl_alloc (Below.refl _ _) _)) hB)
  clear hC hF hB
  go_enter Tryz.func20, Tryz.ntmps20
  go_wp2_with fail
  refine (HR.out _).mono ?_
  rintro e w2 ⟨hb2, ⟨hne, rfl⟩ | ⟨hz, b, rfl, hw⟩⟩
  · have HB2 := Lib.hid (bl_trans (HB0.out _) hb2)
    have HZ2 := Lib.hid (show Blk w2 w.heap.size 38 (mArr zeroMR nilM) from (blk_new w w.heap.size 38 (mArr zeroMR nilM) rfl).below hb2)
    have hs2 := HB2.out.size
    have hz2 := HZ2.out.lt
    have HE := Lib.hid (show namErr l c z = readErr l by unfold namErr; rw [if_pos hne])
    have HNE := Lib.hid hne
    generalize readErr l = ze at *
    clear hb2 hne
    go_wp2_with (refine wpList_store_blk (x := .tmp 7) (y := .tmp 20) (ty := 38) (g := w.heap.size) (cells := mArr zeroMR nilM) (by rfl) (by rfl) (by rfl) (by rfl) HZ2.out info_meth rfl (mArr_one zeroMR nilM) ?_)
    intro W2 hbk hgr
    obtain ⟨d0, d1, d2, d3, d4, d5, d6, d7⟩ := mblk_cells hbk
    have HB9 := Lib.hid (below_grown HB2.out hgr (Nat.le_refl _) hs2)
    clear hbk hgr
    go_wp2_with fail
    exact bodyPost_ret (v := .tuple #[.map none, methV zeroMR nilM, errV ze]) (by simp [results, Tryz.results20, go_sem, d0, d1, d2, d3, d4, d5, d6, d7, methV]) rfl ⟨HB9.out, Or.inl ⟨by rw [HE.out]; exact HNE.out, by rw [HE.out]⟩⟩
  · have HB2 := Lib.hid (bl_trans (HB0.out _) hb2)
    have HZ2 := Lib.hid (show Blk w2 w.heap.size 38 (mArr zeroMR nilM) from (blk_new w w.heap.size 38 (mArr zeroMR nilM) rfl).below hb2)
    have HW2 := Lib.hid hw
    have HG := Lib.hid hw.good
    have hll : l.length ≤ 10 := hw.good.len
    have HE0 := Lib.hid (show namErr l c z = (l.find? (hasAt c z)).elim 3 fun d => (d.meths[z.toNat]?).elim 3 fun m => if m.abst = true then 1 else 0 by unfold namErr; rw [if_neg (by simp [hz])])
    clear hb2 hw hz
    go_wp2_with fail
    go_loopw [24] (fun i wr => ∃ k : Nat, k ≤ l.length ∧ i = .int .i64 k ∧ Below w2.heap.size w2 wr ∧ Hid (∀ d ∈ l.take k, hasAt c z d = false)) (fun i _ => l.length - (RowKit.intOf i).toNat)
    case atStart => exact ⟨0, by omega, rfl, Below.refl _ _, Lib.hid (by simp)⟩
    case round =>
      obtain ⟨k, hk, rfl, hb, HZ⟩ := hrel
      have HBr := Lib.hid hb
      have HBr2 := Lib.hid (bl_trans HB2.out hb)
      have HZr := Lib.hid (HZ2.out.below hb)
      have hsr := HBr2.out.size
      by_cases hlk : k < l.length
      · obtain ⟨d, hx⟩ : ∃ c, l[k]? = some c := ⟨_, List.getElem?_eq_getElem hlk⟩
        have hcm := List.mem_of_getElem? hx
        obtain ⟨b1, off, p, hpa, hlt, hp, hca, d0, d1, d2, d3, d4, d5⟩ := (HC.out.below HBr2.out).cells hx
        have HKL := Lib.hid hlk
        have hkll : k < 10 := by omega
        have HX := Lib.hid hx
        have HP := Lib.hid hp
        have HCA := Lib.hid hca
        have hml := (HBD.out d hcm).1.meths
        have HCM := Lib.hid hcm
        subst hpa
        have hj0 : (0 : Int) ≤ (k : Int) := Int.natCast_nonneg _
        have hji : (k : Int) < (l.length : Int) := by omega
        obtain ⟨w3, hw3⟩ : ∃ w3, w3 = wr.alloc (.cells #[.string ⟨⟨d.nm⟩⟩, .string ⟨⟨d.sup⟩⟩, .slice p.fa d.faces.length p.fc, .bool d.face, .slice p.ga d.fields.length p.gc, .slice p.ma d.meths.length p.mc] 31) := ⟨_, rfl⟩
        have hb3 : Below wr.heap.size wr w3 := by rw [hw3]; exact bl_alloc (Below.refl _ _) _
        have HD3 := Lib.hid (show DBlk w3 wr.heap.size (d, p) by rw [hw3]; exact dblk_new wr (d, p))
        have HB3 := Lib.hid (bl_trans HBr.out hb3)
        have HB32 := Lib.hid (bl_trans HBr2.out hb3)
        have HCA3 := Lib.hid (HCA.out.below hb3)
        have HZ3 := Lib.hid (HZr.out.below hb3)
        clear hx hp hca hb hcm hb3
        go_upto_region 7 with fail
        rw [← hw3]
        clear hw3 d0 d1 d2 d3 d4 d5
        obtain ⟨c0, c1, c2, c3, c4, c5⟩ := HD3.out.cells
        have c6 := HD3.out.lt
        dsimp only at c0 c1 c2 c3 c4 c5
        have HCL2 := Lib.hid (HC.out.2.2 k d p HX.out HP.out)
        cases h1 : (d.nm == c) with
        | false =>
          have HZ9 := Lib.hid (take_snoc_any HZ.out HX.out (show hasAt c z d = false by unfold hasAt; rw [h1]; rfl))
          go_wp2_with fail
          go_roundw
          case rel => exact ⟨k + 1, by have := HKL.out; omega, by go_num, HB3.out, HZ9⟩
          case measure => have := HKL.out; simp [RowKit.intOf]; omega
        | true =>
          by_cases h2 : 0 ≤ z
          · by_cases h3 : z < (d.meths.length : Int)
            · obtain ⟨zn, rfl⟩ : ∃ zn : Nat, z = zn := ⟨z.toNat, by omega⟩
              have hznl : zn < d.meths.length := by omega
              obtain ⟨m, hm⟩ : ∃ m, d.meths[zn]? = some m := ⟨_, List.getElem?_eq_getElem hznl⟩
              obtain ⟨bm, offm, q, hqa, hltm, hq, hma, e0, e1, e2, e3, e4, e5, e6, e7⟩ := HCA3.out.2.2.cells hm
              have HHA := Lib.hid (show hasAt c (zn : Int) d = true by unfold hasAt; rw [h1, decide_eq_true h2, decide_eq_true h3]; rfl)
              have HFD := Lib.hid (find_at2 HZ.out HX.out HHA.out)
              have HM := Lib.hid hm
              have HQ := Lib.hid hq
              have HE1 := Lib.hid (show namErr l c (zn : Int) = if m.abst = true then 1 else 0 by rw [HE0.out, HFD.out]; simp only [Option.elim_some]; rw [show ((zn : Int)).toNat = zn by omega, HM.out]; rfl)
              have hz3 := HZ3.out.lt
              have hs3 := HB32.out.size
              rw [hqa] at c5
              clear hm hq hma
              cases hab : m.abst with
              | true =>
                have HE2 := Lib.hid (show namErr l c (zn : Int) = 1 by rw [HE1.out, if_pos hab])
                rw [hab] at e3
                clear hab
                go_wp2_with (refine wpList_store_blk (x := .tmp 7) (y := .tmp 49) (ty := 38) (g := w.heap.size) (cells := mArr zeroMR nilM) (by rfl) (by rfl) (by rfl) (by rfl) HZ3.out info_meth rfl (mArr_one zeroMR nilM) ?_)
                intro W2 hbk hgr
                obtain ⟨d0, d1, d2, d3, d4, d5, d6, d7⟩ := mblk_cells hbk
                have HB9 := Lib.hid (below_grown HB32.out hgr (Nat.le_refl _) hs3)
                clear hbk hgr
                go_wp2_with fail
                exact bodyPost_ret (v := .tuple #[.map none, methV zeroMR nilM, errV 1]) (by simp [results, Tryz.results20, go_sem, d0, d1, d2, d3, d4, d5, d6, d7, methV]) rfl ⟨HB9.out, Or.inl ⟨by rw [HE2.out]; omega, by rw [HE2.out]⟩⟩
              | false =>
                have HE2 := Lib.hid (show namErr l c (zn : Int) = 0 by rw [HE1.out, if_neg (by rw [hab]; simp)])
                have HAB := Lib.hid hab
                rw [hab] at e3
                clear hab
                go_wp2_with fail
                refine wp_tail 7 (by kernel_rfl) (by kernel_rfl) ?_
                simp only [List.take_succ_cons, List.take_zero, List.drop_succ_cons, List.drop_zero]
                repeat still_step
                refine wpStill_nil ?_
                refine wpList_store_blk (x := .tmp 7) (y := .tmp 56) (ty := 38) (g := w.heap.size) (cells := #[.string ⟨⟨m.nm⟩⟩, .string ⟨⟨m.ty⟩⟩, .bool m.stat, .bool false, .bool m.priv, .int .i64 m.loc, .slice q.ca m.code.length q.cc, .slice q.ha m.hs.length q.hc]) (by rfl) (by rfl) (by rfl) (by rfl) HZ3.out.drew info_meth rfl (by simp [Value.oneCell']) ?_
                intro W2 hbk0 hgr
                have hbk : Blk W2 w.heap.size 38 (mArr m q) := by unfold mArr; rw [HAB.out]; exact hbk0
                obtain ⟨d0, d1, d2, d3, d4, d5, d6, d7⟩ := mblk_cells hbk
                have hb9 := below_grown HB32.out.drew hgr (Nat.le_refl _) hs3
                have HB9 := Lib.hid hb9
                have HW9 := Lib.hid (WOk.but (HW2.out.below (HB3.out.drew)) hgr HZ3.out.drew HC.out hb9)
                have HMA9 := Lib.hid ((HCL2.out.below hb9).2.2.2.2 zn m q HM.out HQ.out)
                clear hbk hbk0 hgr hb9
                go_wp2_with fail
                exact bodyPost_ret (v := .tuple #[.map (some b), methV m q, .nilIface]) (by simp [results, Tryz.results20, go_sem, d0, d1, d2, d3, d4, d5, d6, d7, methV]) rfl ⟨HB9.out, Or.inr ⟨b, d, m, q, HE2.out, HCM.out, HFD.out, by rw [show ((zn : Int)).toNat = zn by omega]; exact HM.out, HAB.out, rfl, HW9.out, HMA9.out⟩⟩
            · 
              have HZ9 := Lib.hid (take_snoc_any HZ.out HX.out (show hasAt c z d = false by unfold hasAt; rw [decide_eq_false h3]; simp))
              go_wp2_with fail
              go_roundw
              case rel => exact ⟨k + 1, by have := HKL.out; omega, by go_num, HB3.out, HZ9⟩
              case measure => have := HKL.out; simp [RowKit.intOf]; omega
          · 
            have HZ9 := Lib.hid (take_snoc_any HZ.out HX.out (show hasAt c z d = false by unfold hasAt; rw [decide_eq_false h2]; simp))
            go_wp2_with fail
            go_roundw
            case rel => exact ⟨k + 1, by have := HKL.out; omega, by go_num, HB3.out, HZ9⟩
            case measure => have := HKL.out; simp [RowKit.intOf]; omega
      · obtain rfl : k = l.length := by omega
        have HE2 := Lib.hid (show namErr l c z = 3 by rw [HE0.out, find_none2 (by have := HZ.out; rwa [List.take_length] at this)]; rfl)
        have hzr := HZr.out.lt
        clear hb
        go_wp2_with (refine wpList_store_blk (x := .tmp 7) (y := .tmp 58) (ty := 38) (g := w.heap.size) (cells := mArr zeroMR nilM) (by rfl) (by rfl) (by rfl) (by rfl) HZr.out info_meth rfl (mArr_one zeroMR nilM) ?_)
        intro W2 hbk hgr
        obtain ⟨d0, d1, d2, d3, d4, d5, d6, d7⟩ := mblk_cells hbk
        have HB9 := Lib.hid (below_grown HBr2.out hgr (Nat.le_refl _) hsr)
        clear hbk hgr
        go_wp2_with fail
        exact bodyPost_ret (v := .tuple #[.map none, methV zeroMR nilM, errV 3]) (by simp [results, Tryz.results20, go_sem, d0, d1, d2, d3, d4, d5, d6, d7, methV]) rfl ⟨HB9.out, Or.inl ⟨by rw [HE2.out]; omega, by rw [HE2.out]⟩⟩
end Go.Proofs.YtjjnkifjhjfkcaaGreatDoor
namespace Go.Proofs.YtjjnkifjhjfkcaaGreatDoor
set_option linter.unusedVariables false
set_option linter.unusedSimpArgs false
open Go.RowKit Go.Shelf Go.Lib

theorem rowMap : RowT Tryz.prog 32 49 3 56 := RowT.mk' (z := .agg #[.int .i64 0, .slice none 0 0, .slice none 0 0]) Tryz.underlying32 (by kernel_rfl) rfl (by omega)
noncomputable def mtErr (l : List ClassR) (c : Nm) (z : Int) : Int :=
  if namErr l c z ≠ 0 then namErr l c z else (l.find? (hasAt c z)).elim 0 fun d => (d.meths[z.toNat]?).elim 0 fun m => if (lookedF (wl l) c m).isNone = true then 7 else 0

set_option maxRecDepth 100000 in
set_option maxHeartbeats 8000000 in
theorem cmethod_calls (l : List ClassR) (ps : List CAddr) (a : Option Addr) (cap : Nat) (c : Nm) (z : Int) (w : World) (hC : ClassesAt w a cap l ps) (hF : FormsAt w) (hB : ClsOk l) (hT : TyB l) (hc : c.length ≤ 1048576) :
    Calls Tryz.prog 9 #[.slice a l.length cap, .string ⟨⟨c⟩⟩, .int .i64 z] w fun e w' => (∃ v, e = .returned (.tuple #[v, errOf (mtErr l c z)])) ∧ Below w.heap.size w w' := by
  have HN := Lib.hid (named_calls l ps a cap c z w hC hF hB)
  have HT := Lib.hid hT
  clear hC hF hB hT
  obtain ⟨EE, hEE⟩ : ∃ E, E = errOf (mtErr l c z) := ⟨_, rfl⟩
  rw [← hEE]
  have HEE := Lib.hid hEE
  clear hEE
  go_enter Tryz.func9, Tryz.ntmps9
  go_wp2_with fail
  refine HN.out.mono ?_
  rintro e w2 ⟨hb2, ⟨hne, rfl⟩ | ⟨b, d, m, q, hne, hdl, hfd, hm, hab, rfl, hw, hma⟩⟩
  · have HB2 := Lib.hid hb2
    have HE := Lib.hid (show EE = errV (namErr l c z) by rw [HEE.out, show mtErr l c z = namErr l c z by unfold mtErr; rw [if_pos hne]]; exact errOf_ne hne)
    generalize namErr l c z = ne at *
    have HB3 := Lib.hid (fun o => bl_alloc HB2.out o)
    clear hb2 hne
    unfold methV
    go_wp2_with fail
    go_ret2
    exact ⟨⟨.slice none 0 0, by rw [HE.out]; rfl⟩, HB3.out _⟩
  · have HB2 := Lib.hid hb2
    have HW := Lib.hid hw
    have HMA := Lib.hid hma
    have hmm := List.mem_of_getElem? hm
    have HMO := Lib.hid (good_mok hw.good hdl hmm hab)
    have htb := HT.out hw.good d hdl m hmm
    have hcl := HMO.out.flow.len
    have HE0 := Lib.hid (show EE = errOf (if (lookedF (wl l) c m).isNone = true then 7 else 0) by rw [HEE.out]; unfold mtErr; rw [if_neg (by simp [hne]), hfd]; simp only [Option.elim_some]; rw [hm]; rfl)
    obtain ⟨w3, hw3⟩ : ∃ w3, w3 = w2.alloc (.cells (mArr m q) 38) := ⟨_, rfl⟩
    have hb3 : Below w2.heap.size w2 w3 := by rw [hw3]; exact bl_alloc (Below.refl _ _) _
    have HM3 := Lib.hid (show Blk w3 w2.heap.size 38 (mArr m q) by rw [hw3]; exact blk_new _ _ _ _ rfl)
    have HB3 := Lib.hid (bl_trans HB2.out hb3)
    have HLD := Lib.hid (looked_calls l (wcp l ps) b c m q w3 (hw.below hb3) (hma.below hb3) HMO.out hc htb.1 htb.2 (flow_pos HMO.out.flow))
    have HW3 := Lib.hid (hw.below hb3)
    rw [methV_arr] at *
    unfold mArr at hw3 HLD ⊢
    clear hb2 hw hma hmm hdl hfd hm hab hne hb3 htb
    go_upto_region 2 with fail
    rw [← hw3]
    clear hw3
    obtain ⟨g0, g1, g2, g3, g4, g5, g6, g7⟩ := mblk_cells HM3.out
    have g8 := HM3.out.lt
    go_wp2_with fail
    refine HLD.out.mono ?_
    rintro e w5 ⟨hb5, ⟨hno, rfl⟩ | ⟨fr, MB, hfr, rfl, hfs, hko⟩⟩
    · have HB5 := Lib.hid (bl_trans HB3.out hb5)
      have HE := Lib.hid (show EE = errV 7 by rw [HE0.out, hno]; exact errOf_ne (by simp))
      clear hb5 hno g0 g1 g2 g3 g4 g5 g6 g7 g8
      go_wp2_with fail
      go_ret2
      exact ⟨⟨.slice none 0 0, by rw [HE.out]; rfl⟩, HB5.out⟩
    · have HB5 := Lib.hid (bl_trans HB3.out hb5)
      have HE := Lib.hid (show EE = .nilIface by rw [HE0.out, hfr]; rfl)
      have HM5 := Lib.hid (HM3.out.below hb5)
      have HW5 := Lib.hid (HW3.out.below hb5)
      have HFS := Lib.hid hfs
      have HKO := Lib.hid hko
      have hs5 := hb5.size
      clear hb5 hfr hfs hko g0 g1 g2 g3 g4 g5 g6 g7 g8
      have g6 := (mblk_cells HM5.out).2.2.2.2.2.2.1
      have g8 := HM5.out.lt
      go_wp2_with fail
      clear g6 g8
      go_loopw [13, 43] (fun v i wr => ∃ (k n : Nat) (xs : List Value), k ≤ m.code.length ∧ n ≤ k ∧ i = .int .i64 k ∧ Below w5.heap.size w5 wr ∧ wr.ownsRow w5.heap.size 49 3 v n xs) (fun _ i _ => m.code.length - (RowKit.intOf i).toNat)
      case atStart => exact ⟨0, 0, [], by omega, by omega, rfl, Below.refl _ _, World.ownsRow_nil _ _ _ _⟩
      case round =>
        obtain ⟨k, n, xs, hk, hnk, rfl, hb, ho⟩ := hrel
        obtain ⟨av, cv, rfl, _⟩ := slice_of_own ho
        have HBr := Lib.hid hb
        have HO := Lib.hid ho
        have HFr := Lib.hid (HFS.out.below hb)
        have hsr := hb.size
        clear ho hb
        by_cases hlk : k < m.code.length
        · obtain ⟨nI, F, hI, hFF⟩ := HFr.out
          have hFk := hFF (k : Int)
          cases hfk : fr (k : Int) with
          | none =>
            rw [hfk] at hFk
            have hlkp := IMap.look_none (P := Tryz.prog) (w := wr) (k := 3) (t := 68) (e := 47) Tryz.underlying3 Tryz.underlying68 hI (wf_nat k (by omega)) hFk (zero_frame _) true
            simp only [if_true] at hlkp
            have HB9 := Lib.hid (fun o => bl_alloc HBr.out o)
            have HO9 := Lib.hid (fun o => HO.out.alloc o)
            clear hI hFF hFk hfk
            go_wp2_with fail
            go_roundw
            case rel => exact ⟨k + 1, n, xs, by omega, by omega, by go_num, HB9.out _, HO9.out _⟩
            case measure => simp [RowKit.intOf]; omega
          | some f =>
            rw [hfk] at hFk
            obtain ⟨qf, hqv, hqf⟩ := hFk
            have hkf := (HKO.out _ _ hfk).1
            have hlkp := IMap.look_some (P := Tryz.prog) (w := wr) (k := 3) (t := 68) (e := 47) Tryz.underlying3 Tryz.underlying68 hI (wf_nat k (by omega)) hqv true
            simp only [if_true] at hlkp
            unfold frV at hlkp
            obtain ⟨w6, hw6⟩ : ∃ w6, w6 = wr.alloc (.cells #[.slice qf.la f.loc.length qf.lc, .slice qf.sa f.st.length qf.sc] 47) := ⟨_, rfl⟩
            have hb6 : Below wr.heap.size wr w6 := by rw [hw6]; exact bl_alloc (Below.refl _ _) _
            have HT6 := Lib.hid (show Blk w6 wr.heap.size 47 #[.slice qf.la f.loc.length qf.lc, .slice qf.sa f.st.length qf.sc] by rw [hw6]; exact blk_new _ _ _ _ rfl)
            have HB6 := Lib.hid (bl_trans HBr.out hb6)
            have HO6 := Lib.hid (own_below HO.out hb6)
            have HBO := Lib.hid ((both_callsN l (wcp l ps) b f f qf qf w6 (HW5.out.below HB6.out) (hqf.below hb6) (hqf.below hb6) hkf.chk hkf.chk).mono (fun e w' h => bothres h))
            unfold frV at HBO
            clear hI hFF hfk hqv hqf hkf hb6
            go_upto_region 12 with fail
            rw [← hw6]
            clear hw6 hlkp
            have t0 := HT6.out.cell 0
            have t1 := HT6.out.cell 1
            have t2 := HT6.out.lt
            go_wp2_with fail
            refine HBO.out.mono ?_
            rintro e w7 ⟨ga, gb, n1, gc1, n2, gc2, is, rfl, hb7, _⟩
            have HB7 := Lib.hid (bl_trans HB6.out hb7)
            have HO7 := Lib.hid (own_below HO6.out hb7)
            have HB8 := Lib.hid (fun o => bl_alloc HB7.out o)
            have HO8 := Lib.hid (fun o => HO7.out.alloc o)
            clear hb7 t0 t1 t2
            unfold slc
            go_wp2_with (at_builtin; refine wpList_append_one rowMap rfl _ _ rfl w5.heap.size _ n xs rfl ?c0 [.int .i64 k, .slice ga n1 gc1, .slice gb n2 gc2] rfl ?c1 _ rfl ?cg ?c2 ?c3 ?c4 ?_)
            case c0 => exact HO8.out _
            case c1 =>
              intro u hu
              simp only [List.mem_cons, List.not_mem_nil, or_false] at hu
              rcases hu with rfl | rfl | rfl <;> rfl
            case cg => first | rfl | simp
            case c2 => omega
            case c3 => omega
            case c4 => exact (HB8.out _).size
            intro v9 w9 ho9 hg9
            obtain ⟨a9, c9, rfl, _⟩ := slice_of_own ho9
            have HO9 := Lib.hid ho9
            have HB9 := Lib.hid ((HB8.out (.cells #[.slice ga n1 gc1, .slice gb n2 gc2] 47)).trans (grown_below (HB8.out _).size (HO8.out _) hg9))
            clear ho9 hg9
            go_wp2_with fail
            go_roundw
            case rel => exact ⟨k + 1, n + 1, _, by omega, by omega, by go_num, HB9.out, HO9.out⟩
            case measure => simp [RowKit.intOf]; omega
        · obtain rfl : k = m.code.length := by omega
          have HB9 := Lib.hid (bl_trans HB5.out HBr.out)
          go_wp2_with fail
          go_ret2
          exact ⟨⟨.slice av n cv, by rw [HE.out]; rfl⟩, HB9.out⟩
end Go.Proofs.YtjjnkifjhjfkcaaGreatDoor
