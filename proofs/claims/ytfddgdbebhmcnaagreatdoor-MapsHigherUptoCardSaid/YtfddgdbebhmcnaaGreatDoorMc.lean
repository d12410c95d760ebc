/-
  The walk of the walker's walk.
-/
import Derived.Test.YtfddgdbebhmcnaaGreatDoorMb
namespace Go.Proofs.YtfddgdbebhmcnaaGreatDoor
set_option linter.unusedVariables false
set_option linter.unusedSimpArgs false
open Go.RowKit Go.Shelf Go.Lib
noncomputable def walkB (L : List ClassR) (c : Nm) (m : MethR) (M : Int → Option FrR) : Bool :=
  if kindsErr L (firstF c m).loc ≠ 0 then false else if givesL m ≠ [86] ∧ kindErr L (givesL m) ≠ 0 then false else wkF L (cFn L) (afterF L c (givesL m)) m.hs M m.code 0 (firstF c m) true
noncomputable def stepB (L : List ClassR) (cF : HandR → FrR → Option FrR) (aF : InsR → FrR → Option FrR) (hs : List HandR) (M : Int → Option FrR) (x : InsR) (r : List InsR) (i : Nat) (f : FrR) : Bool :=
  if capB L cF hs M i f = false then false else (aF x f).elim false fun out => if jumpsB x.op = true ∧ meetsB L M x.a out = false then false else wkF L cF aF hs M r (i + 1) out (!endsB x.op)
section
variable {L : List ClassR} {cF : HandR → FrR → Option FrR} {aF : InsR → FrR → Option FrR} {hs : List HandR} {M : Int → Option FrR} {x : InsR} {r : List InsR} {i : Nat} {f : FrR} {live : Bool}
theorem wk_bad {g : FrR} (h : M (i : Int) = some g) (hl : live = true) (hm : meetsB L M (i : Int) f = false) : wkF L cF aF hs M (x :: r) i f live = false := by
  unfold wkF; rw [if_pos ⟨by rw [h]; rfl, hl, hm⟩]
theorem wk_map {g : FrR} (h : M (i : Int) = some g) (hl : live = false ∨ meetsB L M (i : Int) f = true) : wkF L cF aF hs M (x :: r) i f live = stepB L cF aF hs M x r i g := by
  conv => lhs; unfold wkF
  rw [if_neg (by
    rintro ⟨_, h2, h3⟩
    rcases hl with e | e
    · rw [e] at h2; cases h2
    · rw [e] at h3; cases h3), if_neg (by rw [h]; simp)]
  unfold stepB
  rw [h]; rfl
theorem wk_skip (h : M (i : Int) = none) (hl : live = false) : wkF L cF aF hs M (x :: r) i f live = wkF L cF aF hs M r (i + 1) f false := by
  conv => lhs; unfold wkF
  rw [if_neg (by rw [h]; simp), if_pos ⟨by rw [h]; rfl, hl⟩]
theorem wk_go (h : M (i : Int) = none) (hl : live = true) : wkF L cF aF hs M (x :: r) i f live = stepB L cF aF hs M x r i f := by
  conv => lhs; unfold wkF
  rw [if_neg (by rw [h]; simp), if_neg (by rw [hl]; simp)]
  unfold stepB
  rw [h]; rfl
theorem step_cap (h : capB L cF hs M i f = false) : stepB L cF aF hs M x r i f = false := by unfold stepB; rw [if_pos h]
theorem step_none (h : capB L cF hs M i f = true) (ha : aF x f = none) : stepB L cF aF hs M x r i f = false := by unfold stepB; rw [if_neg (by rw [h]; simp), ha]; rfl
theorem step_jump {out : FrR} (h : capB L cF hs M i f = true) (ha : aF x f = some out) (hj : jumpsB x.op = true) (hm : meetsB L M x.a out = false) : stepB L cF aF hs M x r i f = false := by unfold stepB; rw [if_neg (by rw [h]; simp), ha]; simp only [Option.elim_some]; rw [if_pos ⟨hj, hm⟩]
theorem step_next {out : FrR} (h : capB L cF hs M i f = true) (ha : aF x f = some out) (hj : jumpsB x.op = false ∨ meetsB L M x.a out = true) : stepB L cF aF hs M x r i f = wkF L cF aF hs M r (i + 1) out (!endsB x.op) := by
  unfold stepB; rw [if_neg (by rw [h]; simp), ha]; simp only [Option.elim_some]
  rw [if_neg (by
    rintro ⟨h1, h2⟩
    rcases hj with e | e
    · rw [e] at h1; cases h1
    · rw [e] at h2; cases h2)]
end
set_option maxRecDepth 100000 in
set_option maxHeartbeats 40000000 in
theorem walk_calls (l : List ClassR) (L : List CP) (K MB b : Nat) (c : Nm) (m : MethR) (p : MAddr) (M : Int → Option FrR) (w : World) (hW : WOk w b l L) (hL : WkAt w K MB b m p M) (hM : MethAt w m p) (hm : MOk m) (hc : c.length ≤ 1048576) (hty : m.ty.length ≤ 1048576) (htys : ∀ x ∈ m.code, x.ty.length ≤ 1048576) (hMK : ∀ z g, M z = some g → KOk (wl l) g) :
    Calls Tryz.prog 53 #[.pointer (some ⟨K, 0, none⟩), .string ⟨⟨c⟩⟩] w fun e w' => e = .returned (.bool (walkB (wl l) c m M)) ∧ Below w.heap.size w w' := by
  have hgv : GvOk (givesL m) := (args_gives hm.ty).2.2.2
  have hFI := fst_calls c m p w hm hc (by omega)
  have hfl := first_len hm c
  have hlo := hm.loc
  have HLN := Hd (first_lens hm hc)
  have HW := Hd hW
  have HM := Hd hM
  have HL := Hd hL
  have HMO := Hd hm
  have HMK := Hd hMK
  have HTY := Hd htys
  have HC := Hd hc
  have HFI := Hd hFI
  obtain ⟨R, hR⟩ : ∃ R, R = walkB (wl l) c m M := ⟨_, rfl⟩
  rw [← hR]
  have HR0 := Hd (show R = if kindsErr (wl l) (firstF c m).loc ≠ 0 then false else if givesL m ≠ [86] ∧ kindErr (wl l) (givesL m) ≠ 0 then false else wkF (wl l) (cFn (wl l)) (afterF (wl l) c (givesL m)) m.hs M m.code 0 (firstF c m) true from hR)
  have HKO := Hd (fun h => first_kok (L := wl l) (c := c) hm h)
  have HG := Hd hW.good
  have hcode := hm.flow.len
  obtain ⟨n0, F0, hI0, hF0⟩ := hL.fr
  have HI0 := Hd hI0
  have HF0 := Hd hF0
  generalize firstF c m = f at *
  have k0 := hL.blk.cell 0
  have k1 := hL.blk.cell 1
  have k2 := hL.blk.cell 2
  have k3 := hL.blk.cell 3
  have k4 := hL.blk.cell 4
  have k5 := hL.blk.cell 5
  have k6 := hL.blk.cell 6
  have k7 := hL.blk.cell 7
  have k8 := hL.blk.cell 8
  have k9 := hL.blk.lt
  unfold wkArr at k0 k1 k2 k3 k4 k5 k6 k7 k8
  rw [methV_arr] at HFI
  unfold mArr at HFI
  clear hW hM hm hFI hL htys hMK hR hc hI0 hF0
  go_enter Tryz.func53, Tryz.ntmps53
  go_wp2_with fail
  refine HFI.out.mono ?_
  rintro e w2 ⟨hb2, ⟨la, lc, sa, sc⟩, rfl, hfq, hfn⟩
  generalize hgve : givesL m = gv at *
  have HGV := Hd hgv
  clear hgv
  unfold frV
  obtain ⟨w3, hw3⟩ : ∃ w3, w3 = w2.alloc (.cells #[.slice la f.loc.length lc, .slice sa f.st.length sc] 60) := ⟨_, rfl⟩
  have hb3 : Below w.heap.size w w3 := by rw [hw3]; exact bl_alloc hb2 _
  have HT3 := Hd (show Blk w3 w2.heap.size 60 #[.slice la f.loc.length lc, .slice sa f.st.length sc] by rw [hw3]; exact blk_new _ _ _ _ rfl)
  have hs3 : w3.heap.size = w2.heap.size + 1 := by rw [hw3]; simp
  have hs2 := hb2.size
  have HB2 := Hd hb2
  have HB3 := Hd hb3
  have HB23 := Hd (show Below w2.heap.size w2 w3 by rw [hw3]; exact bl_alloc (Below.refl _ _) _)
  have HF3 := Hd (show FrAt w3 f ⟨la, lc, sa, sc⟩ by rw [hw3]; exact hfq.below (bl_alloc (Below.refl _ _) _))
  have HFR := Hd (show FarF w2.heap.size w2.heap.size (.slice none 0 0) f ⟨la, lc, sa, sc⟩ from by
    have far : ∀ {a : Option Addr} {cp : Nat} {X : List Nm}, SRow w2 a cp X → FarS w2.heap.size w2.heap.size (.slice none 0 0) a X := fun {a cp X} h => by
      obtain ⟨_, h2 | ⟨bb, off, rfl, hl, _⟩⟩ := h
      · exact Or.inl h2
      · exact Or.inr (fun ad e => by cases e; exact ⟨by show bb ≠ _; omega, by show bb ≠ _; omega, fun e2 => by cases e2⟩)
    exact ⟨far hfq.1, far hfq.2⟩)
  have hq8 : f.loc.length ≤ 8 := by rw [hfl]; omega
  clear k0 k1 k2 k3 k4 k5 k6 k7 k8 k9 hb2 hb3 hfq hfn hfl
  go_upto_region 2 with fail
  rw [← hw3]
  clear hw3
  have t0 := HT3.out.cell 0
  have t1 := HT3.out.lt
  have hll := (show f.loc.length ≤ 8 from hq8)
  go_wp2_with fail
  clear t0 t1
  go_loopw [28] (fun i wr => ∃ k : Nat, k ≤ f.loc.length ∧ i = .int .i64 k ∧ Below w3.heap.size w3 wr ∧ Hid (∀ x ∈ f.loc.take k, kindErr (wl l) x = 0)) (fun i _ => f.loc.length - (RowKit.intOf i).toNat)
  case atStart => exact ⟨0, by omega, rfl, Below.refl _ _, Hd (by simp)⟩
  case round =>
    obtain ⟨k, hk, rfl, hb, HZ⟩ := hrel
    have HB := Hd hb
    have HWk := Hd (HL.out.below (bl_trans HB3.out hb))
    have kk0 := HWk.out.blk.cell 0
    have kk1 := HWk.out.blk.lt
    unfold wkArr at kk0
    by_cases hlk : k < f.loc.length
    · obtain ⟨x, hx⟩ : ∃ x, f.loc[k]? = some x := ⟨_, List.getElem?_eq_getElem hlk⟩
      obtain ⟨bq, off, hqa, hlt, c0⟩ := strs_cell (HF3.out.1.below hb) hx
      have hj0 : (0 : Int) ≤ (k : Int) := Int.natCast_nonneg _
      have hji : (k : Int) < (f.loc.length : Int) := by omega
      have HKI := Hd (kind_calls l L b x wr (HW.out.below (bl_trans HB3.out hb)) (HLN.out x (List.mem_of_getElem? hx)))
      have HX := Hd hx
      dsimp only at hqa
      subst hqa
      clear hx hb
      by_cases hkx : kindErr (wl l) x = 0
      · rw [hkx, errOf_zero] at HKI
        have HZ2 := Hd (show ∀ y ∈ f.loc.take (k + 1), kindErr (wl l) y = 0 by
          intro y hy
          rw [List.take_add_one, HX.out] at hy
          simp only [Option.toList_some, List.mem_append, List.mem_singleton] at hy
          rcases hy with hy | hy
          · exact HZ.out y hy
          · rw [hy]; exact hkx)
        clear hkx
        go_wp2_with fail
        refine HKI.out.mono ?_
        rintro e w4 ⟨rfl, hb4⟩
        have HB4 := Hd (bl_trans HB.out hb4)
        clear hb4
        go_wp2_with fail
        go_roundw
        case rel => exact ⟨k + 1, by omega, by go_num, HB4.out, HZ2⟩
        case measure => simp [RowKit.intOf]; omega
      · have HE := Hd (show R = false by rw [HR0.out, if_pos (kinds_ne HZ.out HX.out hkx)])
        rw [errOf_ne hkx] at HKI
        generalize kindErr (wl l) x = ke at *
        clear hkx
        go_wp2_with fail
        refine HKI.out.mono ?_
        rintro e w4 ⟨rfl, hb4⟩
        have HB4 := Hd (bl_trans HB3.out (bl_trans HB.out hb4))
        clear hb4
        go_wp2_with fail
        go_ret
        exact ⟨by rw [HE.out]; rfl, HB4.out⟩
    · obtain rfl : k = f.loc.length := by omega
      have hz0 : kindsErr (wl l) f.loc = 0 := kindsErr_zero.2 (by have := HZ.out; rwa [List.take_length] at this)
      have HKF := Hd (HKO.out hz0)
      have HGVE := Hd hgve
      have HR1 := Hd (show R = if gv ≠ [86] ∧ kindErr (wl l) gv ≠ 0 then false else wkF (wl l) (cFn (wl l)) (afterF (wl l) c gv) m.hs M m.code 0 f true by rw [HR0.out, if_neg (by simp [hz0])])
      have HTr := Hd (HT3.out.below hb)
      have HBr2 := Hd (HB23.out.trans (hb.mono HB23.out.size))
      have HFr := Hd (HF3.out.below hb)
      clear hgve hz0 hb
      rcases Classical.em (gv = [86]) with hv86 | hv86
      case' inr =>
        have q86 : (gv == [86]) = false := by rw [beq_eq_false_iff_ne]; exact hv86
        have HKG := Hd (kind_calls l L b gv wr (HW.out.below (bl_trans HB3.out HB.out)) (by
          rcases HGV.out with h | h
          · rw [h]; simp
          · have := type_len25 h; omega))
        rcases Classical.em (kindErr (wl l) gv = 0) with hkg | hkg
        rotate_left
        · have HE := Hd (show R = false by rw [HR1.out, if_pos ⟨hv86, hkg⟩])
          rw [errOf_ne hkg] at HKG
          generalize kindErr (wl l) gv = ke at *
          clear hv86 hkg
          go_wp2_with fail
          refine HKG.out.mono ?_
          rintro e w4 ⟨rfl, hb4⟩
          have HB4 := Hd (bl_trans HB3.out (bl_trans HB.out hb4))
          clear hb4
          go_wp2_with fail
          go_ret
          exact ⟨by rw [HE.out]; rfl, HB4.out⟩
        have HR2 := Hd (show R = wkF (wl l) (cFn (wl l)) (afterF (wl l) c gv) m.hs M m.code 0 f true by rw [HR1.out, if_neg (fun h => h.2 hkg)])
        rw [hkg, errOf_zero] at HKG
        clear hv86 hkg
        go_wp2_with fail
        refine HKG.out.mono ?_
        rintro e wa ⟨rfl, hba⟩
        have HWa := Hd (HWk.out.below hba)
        have HTa := Hd (HTr.out.below hba)
        have HBa := Hd (HBr2.out.trans (hba.mono HBr2.out.size))
        have HFa := Hd (HFr.out.below hba)
        have u8 := HWa.out.blk.cell 7
        have u9 := HWa.out.blk.lt
        unfold wkArr at u8
        clear hba kk0 kk1
        go_wp2_with fail
      case' inl =>
        have q86 : (gv == [86]) = true := by rw [hv86]; rfl
        have HR2 := Hd (show R = wkF (wl l) (cFn (wl l)) (afterF (wl l) c gv) m.hs M m.code 0 f true by rw [HR1.out, if_neg (fun h => h.1 hv86)])
        clear hv86
        obtain ⟨wa, hwa⟩ : ∃ wa, wa = wr := ⟨_, rfl⟩
        subst hwa
        have HWa := Hd HWk.out
        have HTa := Hd HTr.out
        have HBa := Hd HBr2.out
        have HFa := Hd HFr.out
        have u8 := HWa.out.blk.cell 7
        unfold wkArr at u8
        go_wp2_with fail
      all_goals
        go_loopw [9, 57] (fun v i wr => ∃ (k : Nat) (g : FrR) (q : FAddr) (live : Bool), k ≤ m.code.length ∧ i = .int .i64 k ∧ v = .bool live ∧ Below w2.heap.size w2 wr ∧ Blk wr w2.heap.size 60 #[.slice q.la g.loc.length q.lc, .slice q.sa g.st.length q.sc] ∧ FrAt wr g q ∧ FarF w2.heap.size w2.heap.size (.slice none 0 0) g q ∧ KOk (wl l) g ∧ w2.heap.size < wr.heap.size ∧ Hid (R = wkF (wl l) (cFn (wl l)) (afterF (wl l) c gv) m.hs M (m.code.drop k) k g live)) (fun _ i _ => m.code.length - (RowKit.intOf i).toNat)
        case atStart => exact ⟨0, f, ⟨la, lc, sa, sc⟩, true, by omega, rfl, rfl, HBa.out, HTa.out, HFa.out, HFR.out, HKF.out, HTa.out.lt, Hd (by rw [HR2.out]; rfl)⟩
        case round =>
          obtain ⟨k, g, q, live, hk, rfl, rfl, hb, ht, hfr, hfar, hkg, hsz, HRk⟩ := hrel
          have HBw := Hd (show Below w.heap.size w wr from HB2.out.trans (hb.mono hs2))
          have HBk := Hd hb
          have HTk := Hd ht
          have HFk := Hd hfr
          have HFARk := Hd hfar
          have HKk := Hd hkg
          clear hb ht hfr hfar hkg HWa HTa HBa HFa
          by_cases hlk : k < m.code.length
          · obtain ⟨x, hx⟩ : ∃ x, m.code[k]? = some x := ⟨_, List.getElem?_eq_getElem hlk⟩
            have hxm := List.mem_of_getElem? hx
            have HXI := Hd (HMO.out.flow.ins x hxm)
            have HXT := Hd (HTY.out x hxm)
            have HDR := Hd (show m.code.drop k = x :: m.code.drop (k + 1) by rw [List.drop_eq_getElem_cons hlk]; congr 1; rw [List.getElem?_eq_getElem hlk] at hx; exact Option.some.inj hx)
            obtain ⟨bc, offc, hca, hlc, d0, d1, d2, d3, d4, d5⟩ := (HM.out.1.below HBw.out).cells hx
            have hj0 : (0 : Int) ≤ (k : Int) := Int.natCast_nonneg _
            have hji : (k : Int) < (m.code.length : Int) := by omega
            rw [hca] at *
            clear hx hxm
            obtain ⟨w4, hw4⟩ : ∃ w4, w4 = wr.alloc (.cells #[.int .i64 x.op, .int .i64 x.a, .int .i64 x.b, .string ⟨⟨x.ty⟩⟩, .string ⟨⟨x.cl⟩⟩, .string ⟨⟨x.nm⟩⟩] 35) := ⟨_, rfl⟩
            have hb4 : Below wr.heap.size wr w4 := by rw [hw4]; exact bl_alloc (Below.refl _ _) _
            have hs4 : w4.heap.size = wr.heap.size + 1 := by rw [hw4]; simp
            have HI4 := Hd (show Blk w4 wr.heap.size 35 (insArr x) by rw [hw4]; exact blk_new _ _ _ _ rfl)
            have HW4 := Hd (HL.out.below (bl_trans HBw.out hb4))
            have hI4 := HI0.out.below (bl_trans HBw.out hb4)
            have hF4 := HF0.out (k : Int)
            have c1 := HW4.out.blk.cell 9
            have c2 := HW4.out.blk.lt
            unfold wkArr at c1
            go_upto_region 14 with fail
            rw [← hw4]
            clear hw4 d0 d1 d2 d3 d4 d5
            cases hmk : M (k : Int) with
            | none =>
              rw [hmk] at hF4
              have hlkp := IMap.look_none (P := Tryz.prog) (w := w4) (k := 3) (t := 102) (e := 60) Tryz.underlying3 Tryz.underlying102 hI4 (wf_nat k (by omega)) hF4 (zero_frame _) true
              simp only [if_true] at hlkp
              obtain ⟨wt, hwt⟩ : ∃ wt, wt = w4.alloc (.cells #[.slice none 0 0, .slice none 0 0] 60) := ⟨_, rfl⟩
              have hbt : Below wr.heap.size wr wt := by rw [hwt]; exact bl_alloc hb4 _
              have HTt := Hd (HTk.out.below hbt)
              have HBt := Hd (HBk.out.trans (hbt.mono HBk.out.size))
              have HFt := Hd (HFk.out.below hbt)
              have HIt := Hd (show Blk wt wr.heap.size 35 (insArr x) by rw [hwt]; exact HI4.out.alloc _)
              cases live with
              | false =>
                have HRn := Hd (show R = wkF (wl l) (cFn (wl l)) (afterF (wl l) c gv) m.hs M (m.code.drop (k + 1)) (k + 1) g false by rw [HRk.out, HDR.out, wk_skip hmk rfl])
                have hszt := HTt.out.lt
                clear hI4 hF4 hmk hb4 hbt
                go_upto_region 15 with fail
                rw [← hwt]
                clear hwt hlkp c1 c2
                go_wp2_with fail
                go_roundw
                case rel => exact ⟨k + 1, g, q, false, by omega, by go_num, rfl, HBt.out, HTt.out, HFt.out, HFARk.out, HKk.out, hszt, HRn⟩
                case measure => simp [RowKit.intOf]; omega
              | true =>
                have HRt := Hd (show R = stepB (wl l) (cFn (wl l)) (afterF (wl l) c gv) m.hs M x (m.code.drop (k + 1)) k g by rw [HRk.out, HDR.out, wk_go hmk rfl])
                have HKt := HKk
                have HWt := Hd (HL.out.below (bl_trans HBw.out hbt))
                have HWWt := Hd (HW.out.below (bl_trans HBw.out hbt))
                have HMt := Hd (HM.out.below (bl_trans HBw.out hbt))
                have hst := hbt.size
                obtain ⟨f1, hf1⟩ : ∃ f1, f1 = g := ⟨g, rfl⟩
                subst hf1
                obtain ⟨q1, hq1⟩ : ∃ q1, q1 = q := ⟨q, rfl⟩
                subst hq1
                clear hI4 hF4 hmk hb4 hbt
                go_upto_region 15 with fail
                rw [← hwt]
                clear hwt hlkp c1 c2
                have HCA := Hd (wcaught_calls l L K MB b m p M k f1 q1 wt HWWt.out HWt.out HMt.out HMO.out HFt.out HKt.out HMK.out)
                unfold frV at HCA
                have x0 := HTt.out.cell 0
                have x1 := HTt.out.cell 1
                have x2 := HTt.out.lt
                cases hcap : capB (wl l) (cFn (wl l)) m.hs M k f1 with
                | false =>
                  rw [hcap] at HCA
                  have HE := Hd (show R = false by rw [HRt.out, step_cap hcap])
                  clear hcap
                  go_wp2_with fail
                  refine HCA.out.mono ?_
                  rintro e w6 ⟨rfl, hb6⟩
                  have HB6 := Hd (show Below w.heap.size w w6 from bl_trans (HB2.out.trans (HBt.out.mono hs2)) hb6)
                  clear hb6
                  go_wp2_with fail
                  go_ret
                  exact ⟨by rw [HE.out]; rfl, HB6.out⟩
                | true =>
                  rw [hcap] at HCA
                  have HCAP := Hd hcap
                  clear hcap
                  go_wp2_with fail
                  refine HCA.out.mono ?_
                  rintro e w6 ⟨rfl, hb6⟩
                  have HT6 := Hd (HTt.out.below hb6)
                  have HI6 := Hd (HIt.out.below hb6)
                  have HF6 := Hd (HFt.out.below hb6)
                  have HW6 := Hd (HWt.out.below hb6)
                  have HWW6 := Hd (HWWt.out.below hb6)
                  have HB6 := Hd (HBt.out.trans (hb6.mono HBt.out.size))
                  have hs6 := hb6.size
                  have hi6 := HI6.out.lt
                  have HAF := Hd (fun W (hw : Below w6.heap.size w6 W) => (safter_calls l L b c gv x f1 q1 W (HWW6.out.below hw) (HF6.out.below hw) HKt.out HXI.out HGV.out HC.out HXT.out).mono (fun e w' h => saftres h))
                  have HSC := Hd (fun W (hw : Below w6.heap.size w6 W) => (show W.cell? ⟨K, 0, none⟩ = some (.map (some b)) ∧ W.cell? ⟨wr.heap.size, 0, none⟩ = some (.int .i64 x.op) ∧ W.cell? ⟨wr.heap.size, 1, none⟩ = some (.int .i64 x.a) ∧ W.cell? ⟨wr.heap.size, 2, none⟩ = some (.int .i64 x.b) ∧ W.cell? ⟨wr.heap.size, 3, none⟩ = some (.string ⟨⟨x.ty⟩⟩) ∧ W.cell? ⟨wr.heap.size, 4, none⟩ = some (.string ⟨⟨x.cl⟩⟩) ∧ W.cell? ⟨wr.heap.size, 5, none⟩ = some (.string ⟨⟨x.nm⟩⟩) ∧ W.cell? ⟨w2.heap.size, 0, none⟩ = some (.slice q1.la f1.loc.length q1.lc) ∧ W.cell? ⟨w2.heap.size, 1, none⟩ = some (.slice q1.sa f1.st.length q1.sc) from
                    ⟨(HW6.out.below hw).blk.cell 0, (HI6.out.below hw).cell 0, (HI6.out.below hw).cell 1, (HI6.out.below hw).cell 2, (HI6.out.below hw).cell 3, (HI6.out.below hw).cell 4, (HI6.out.below hw).cell 5, (HT6.out.below hw).cell 0, (HT6.out.below hw).cell 1⟩))
                  have HAL := Hd (show Below w6.heap.size w6 (w6.alloc (.cells #[.slice none 0 0, .slice none 0 0] 60)).drew from (bl_alloc (Below.refl _ _) _).drew)
                  have HZ1 := Hd (show Blk (w6.alloc (.cells #[.slice none 0 0, .slice none 0 0] 60)).drew w6.heap.size 60 #[.slice none 0 0, .slice none 0 0] from blk_new _ _ _ _ rfl)
                  have c3 := HW6.out.blk.lt
                  unfold frV insV at HAF
                  clear hb6 x0 x1 x2
                  go_upto_region 22 with fail
                  go_region_held3 (fun W' => W'.cell? ⟨K, 0, none⟩ = some (.map (some b)) ∧ W'.cell? ⟨wr.heap.size, 0, none⟩ = some (.int .i64 x.op) ∧ W'.cell? ⟨wr.heap.size, 1, none⟩ = some (.int .i64 x.a) ∧ W'.cell? ⟨wr.heap.size, 2, none⟩ = some (.int .i64 x.b) ∧ W'.cell? ⟨wr.heap.size, 3, none⟩ = some (.string ⟨⟨x.ty⟩⟩) ∧ W'.cell? ⟨wr.heap.size, 4, none⟩ = some (.string ⟨⟨x.cl⟩⟩) ∧ W'.cell? ⟨wr.heap.size, 5, none⟩ = some (.string ⟨⟨x.nm⟩⟩) ∧ W'.cell? ⟨w2.heap.size, 0, none⟩ = some (.slice q1.la f1.loc.length q1.lc) ∧ W'.cell? ⟨w2.heap.size, 1, none⟩ = some (.slice q1.sa f1.st.length q1.sc))
                    (first | exact HSC.out _ (Below.refl _ _) | exact HSC.out _ (Below.refl _ _).drew | exact HSC.out _ HAL.out | exact HSC.out _ (bl_alloc (Below.refl _ _) _) | exact HSC.out _ (bl_alloc (Below.refl _ _).drew _) | exact HSC.out _ hb5 | exact HSC.out _ hb5.drew | exact HSC.out _ hbA | exact HSC.out _ (bl_alloc hbA _))
                    ((first
                    | (go_at_call 48
                       with_reducible refine (HAF.out w6.drew (Below.refl _ _).drew).mono ?_
                       rintro e wb ⟨ga, gb, n1, gc1, n2, gc2, is, rfl, hbb, hor⟩
                       have hbA := bl_trans (Below.refl w6.heap.size w6).drew hbb
                       obtain ⟨w5, hst5, hb5', hk5⟩ := fstore_new wb ga n1 gc1 gb n2 gc2
                       have hb5 := bl_trans hbA hb5'
                       have hfa : ∀ g, FrAt wb g ⟨ga, gc1, gb, gc2⟩ → FNew w6.drew.heap.size ⟨ga, gc1, gb, gc2⟩ → FrAt w5 g ⟨ga, gc1, gb, gc2⟩ ∧ FNew w6.heap.size ⟨ga, gc1, gb, gc2⟩ := fun g h hn => ⟨h.below hb5', hn⟩
                       have hsb5 : wb.heap.size ≤ w5.heap.size := hb5'.size
                       have ht5 : w6.heap.size ≤ wb.heap.size := hbA.size
                       obtain ⟨T9, hT9⟩ : ∃ T, T = wb.heap.size := ⟨_, rfl⟩)
                    | (go_at_call 48
                       with_reducible refine (HAF.out (w6.alloc (.cells #[.slice none 0 0, .slice none 0 0] 60)).drew HAL.out).mono ?_
                       rintro e wb ⟨ga, gb, n1, gc1, n2, gc2, is, rfl, hbb, hor⟩
                       have hbA := bl_trans HAL.out hbb
                       obtain ⟨w5, hst5, hg5, hk5⟩ := fstore_old wb w6.heap.size ga n1 gc1 gb n2 gc2 (HZ1.out.below hbb)
                       have hb5 := gb_to_below hbA hg5 (Nat.le_refl _)
                       have hfa : ∀ g, FrAt wb g ⟨ga, gc1, gb, gc2⟩ → FNew (w6.alloc (.cells #[.slice none 0 0, .slice none 0 0] 60)).drew.heap.size ⟨ga, gc1, gb, gc2⟩ → FrAt w5 g ⟨ga, gc1, gb, gc2⟩ ∧ FNew w6.heap.size ⟨ga, gc1, gb, gc2⟩ := fun g h hn => by
                         have e9 : (w6.alloc (.cells #[.slice none 0 0, .slice none 0 0] 60)).drew.heap.size = w6.heap.size + 1 := by show (w6.alloc _).heap.size = _; simp
                         rw [e9] at hn
                         exact ⟨⟨gb_srow hg5 h.1 (fun ad e => by have := hn.1 ad e; omega), gb_srow hg5 h.2 (fun ad e => by have := hn.2 ad e; omega)⟩, ⟨fun ad e => by have := hn.1 ad e; omega, fun ad e => by have := hn.2 ad e; omega⟩⟩
                       have hsb5 : wb.heap.size ≤ w5.heap.size := hg5.size
                       have ht5 : w6.heap.size ≤ w6.heap.size := Nat.le_refl _
                       obtain ⟨T9, hT9⟩ : ∃ T, T = w6.heap.size := ⟨_, rfl⟩)))
                  all_goals
                    rw [← hT9]
                    have ht9 : w6.heap.size ≤ T9 := by omega
                    have HK5 := Hd (show Blk w5 T9 60 (slc ga n1 gc1 gb n2 gc2) by rw [hT9]; exact hk5)
                    have HI5 := Hd (HI6.out.below hb5)
                    have HT5 := Hd (HT6.out.below hb5)
                    have HB5 := Hd (show Below w2.heap.size w2 w5 from HB6.out.trans (hb5.mono HB6.out.size))
                    have HW5 := Hd (HW6.out.below hb5)
                    have HWW5 := Hd (HWW6.out.below hb5)
                    have HFA := Hd hfa
                    have HBE := Hd (show Below w.heap.size w w5 from HB2.out.trans (HB5.out.mono hs2))
                    have hs65 := hb5.size
                    clear hT9 hst5 hb5 hk5 hbA hbb hfa
                    rcases hor with ⟨rfl, hno⟩ | ⟨rfl, o, haf, hko, rfl, rfl, hga, hgn⟩
                    · have HE := Hd (show R = false by rw [HRt.out, step_none HCAP.out hno])
                      clear hno
                      go_wp2_with fail
                      go_ret
                      exact ⟨by rw [HE.out]; rfl, HBE.out⟩
                    · obtain ⟨hfo, hgn'⟩ := HFA.out o hga hgn
                      have HO5 := Hd hfo
                      have HGN := Hd hgn'
                      have HKO5 := Hd hko
                      have HAFO := Hd haf
                      have HJ := Hd (fun w => jumps_same x.op w)
                      have y0 := HI5.out.cell 0
                      have y1 := HI5.out.cell 1
                      have y2 := HI5.out.lt
                      have z0 := HK5.out.cell 0
                      have z1 := HK5.out.cell 1
                      have z2 := HK5.out.lt
                      unfold slc at z0 z1
                      unfold insArr at y0 y1
                      clear haf hko hga hgn hfo hgn' HAF HSC HAL HZ1 HFA
                      cases hju : jumpsB x.op with
                      | false =>
                        rw [hju] at HJ
                        have HRn := Hd (show R = wkF (wl l) (cFn (wl l)) (afterF (wl l) c gv) m.hs M (m.code.drop (k + 1)) (k + 1) o (!endsB x.op) by rw [HRt.out, step_next HCAP.out HAFO.out (Or.inl hju)])
                        clear hju
                        go_wp2_with fail
                        refine (HJ.out _).mono ?_
                        rintro e wz ⟨rfl, rfl⟩
                        have HIe := HI5
                        have HKe := Hd (show Blk w5 T9 60 #[.slice ga o.loc.length gc1, .slice gb o.st.length gc2] from HK5.out)
                        have HTe := HT5
                        have HBe := HB5
                        have HOe := HO5
                        clear y0 y1 y2 z0 z1 z2
                        have HSC2 := Hd (fun W (hw : Below w5.heap.size w5 W) => (show W.cell? ⟨wr.heap.size, 0, none⟩ = some (.int .i64 x.op) ∧ W.cell? ⟨T9, 0, none⟩ = some (.slice ga o.loc.length gc1) ∧ W.cell? ⟨T9, 1, none⟩ = some (.slice gb o.st.length gc2) from ⟨(HIe.out.below hw).cell 0, (HKe.out.below hw).cell 0, (HKe.out.below hw).cell 1⟩))
                        have HSG2 := Hd (fun W (hg : w5.grownBy W (some w2.heap.size)) => (show W.cell? ⟨wr.heap.size, 0, none⟩ = some (.int .i64 x.op) ∧ W.cell? ⟨T9, 0, none⟩ = some (.slice ga o.loc.length gc1) ∧ W.cell? ⟨T9, 1, none⟩ = some (.slice gb o.st.length gc2) from ⟨(gb_blk hg HIe.out (by omega)).cell 0, (gb_blk hg HKe.out (by omega)).cell 0, (gb_blk hg HKe.out (by omega)).cell 1⟩))
                        have o0 := HTe.out.cell 0
                        have o1 := HTe.out.cell 1
                        have o2 := HTe.out.frozen 0
                        have o3 := HTe.out.frozen 1
                        have o4 := HTe.out.lt
                        go_upto_region 25 with fail
                        go_region_held3 (fun W' => W'.cell? ⟨wr.heap.size, 0, none⟩ = some (.int .i64 x.op) ∧ W'.cell? ⟨T9, 0, none⟩ = some (.slice ga o.loc.length gc1) ∧ W'.cell? ⟨T9, 1, none⟩ = some (.slice gb o.st.length gc2))
                          (first | exact HSC2.out _ (Below.refl _ _) | exact HSC2.out _ (Below.refl _ _).drew | exact HSG2.out _ (gb_drew (gb_set (gb_set (gb_refl _ _) 0 _) 1 _)) | exact HSG2.out _ (gb_set (gb_set (gb_refl _ _) 0 _) 1 _) | exact HSG2.out _ (gb_set (gb_set (gb_drew (gb_refl _ _)) 0 _) 1 _))
                          ((go_at_call 99
                            refine (ends_calls x.op _).mono ?_
                            rintro e wz ⟨rfl, rfl⟩))
                        all_goals
                          obtain ⟨w9, hw9⟩ : ∃ w9, w9 = ((w5.setCell ⟨w2.heap.size, 0, none⟩ (.slice ga o.loc.length gc1)).setCell ⟨w2.heap.size, 1, none⟩ (.slice gb o.st.length gc2)).drew := ⟨_, rfl⟩
                          have HT9 := Hd (show Blk w9 w2.heap.size 60 #[.slice ga o.loc.length gc1, .slice gb o.st.length gc2] by rw [hw9]; exact (blk_set (blk_set HTe.out 0 _) 1 _).drew)
                          have hgb : w5.grownBy w9 (some w2.heap.size) := by rw [hw9]; exact gb_drew (gb_set (gb_set (gb_refl _ _) 0 _) 1 _)
                          have HB9 := Hd (show Below w2.heap.size w2 w9 by rw [hw9]; exact ((HBe.out.setCell (p := ⟨w2.heap.size, 0, none⟩) (Nat.le_refl _) _).setCell (p := ⟨w2.heap.size, 1, none⟩) (Nat.le_refl _) _).drew)
                          have HF9 := Hd (show FrAt w9 o ⟨ga, gc1, gb, gc2⟩ from ⟨gb_srow hgb HOe.out.1 (fun ad e => by have := HGN.out.1 ad e; omega), gb_srow hgb HOe.out.2 (fun ad e => by have := HGN.out.2 ad e; omega)⟩)
                          have HFAR9 := Hd (show FarF w2.heap.size w2.heap.size (.slice none 0 0) o ⟨ga, gc1, gb, gc2⟩ from FarF.new (n := wr.heap.size) (by omega) (by omega) (fun k hk => by cases hk) ⟨fun ad e => by have := HGN.out.1 ad e; omega, fun ad e => by have := HGN.out.2 ad e; omega⟩)
                          have hsz9 : w2.heap.size < w9.heap.size := HT9.out.lt
                          rw [← hw9]
                          clear hw9 hgb o0 o1 o2 o3 o4 HSC2 HSG2
                          go_wp2_with fail
                          go_roundw
                          case rel => exact ⟨k + 1, o, ⟨ga, gc1, gb, gc2⟩, !endsB x.op, by omega, by go_num, rfl, HB9.out, HT9.out, HF9.out, HFAR9.out, HKO5.out, hsz9, HRn⟩
                          case measure => simp [RowKit.intOf]; omega
                      | true =>
                        rw [hju] at HJ
                        have HJU := Hd hju
                        obtain ⟨ra0, ra1, _, _⟩ := jumps_ranged HXI.out hju
                        have HME := Hd (meets_calls l L K MB b m p M x.a o ⟨ga, gc1, gb, gc2⟩ w5 HWW5.out HW5.out (by omega) HO5.out HKO5.out HMK.out)
                        unfold frV at HME
                        clear hju
                        cases hmb : meetsB (wl l) M x.a o with
                        | false =>
                          rw [hmb] at HME
                          have HE := Hd (show R = false by rw [HRt.out, step_jump HCAP.out HAFO.out HJU.out hmb])
                          clear hmb
                          go_wp2_with fail
                          refine (HJ.out _).mono ?_
                          rintro e wz ⟨rfl, rfl⟩
                          go_wp2_with fail
                          refine HME.out.mono ?_
                          rintro e w7 ⟨rfl, hb7⟩
                          have HB7 := Hd (bl_trans HBE.out hb7)
                          clear hb7
                          go_wp2_with fail
                          go_ret
                          exact ⟨by rw [HE.out]; rfl, HB7.out⟩
                        | true =>
                          rw [hmb] at HME
                          have HRn := Hd (show R = wkF (wl l) (cFn (wl l)) (afterF (wl l) c gv) m.hs M (m.code.drop (k + 1)) (k + 1) o (!endsB x.op) by rw [HRt.out, step_next HCAP.out HAFO.out (Or.inr hmb)])
                          clear hmb
                          go_wp2_with fail
                          refine (HJ.out _).mono ?_
                          rintro e wz ⟨rfl, rfl⟩
                          go_wp2_with fail
                          refine HME.out.mono ?_
                          rintro e w7 ⟨rfl, hb7⟩
                          have HIe := Hd (HI5.out.below hb7)
                          have HKe := Hd ((show Blk w5 T9 60 #[.slice ga o.loc.length gc1, .slice gb o.st.length gc2] from HK5.out).below hb7)
                          have HTe := Hd (HT5.out.below hb7)
                          have HBe := Hd (HB5.out.trans (hb7.mono HB5.out.size))
                          have HOe := Hd (HO5.out.below hb7)
                          clear hb7 y0 y1 y2 z0 z1 z2
                          have HSC2 := Hd (fun W (hw : Below w7.heap.size w7 W) => (show W.cell? ⟨wr.heap.size, 0, none⟩ = some (.int .i64 x.op) ∧ W.cell? ⟨T9, 0, none⟩ = some (.slice ga o.loc.length gc1) ∧ W.cell? ⟨T9, 1, none⟩ = some (.slice gb o.st.length gc2) from ⟨(HIe.out.below hw).cell 0, (HKe.out.below hw).cell 0, (HKe.out.below hw).cell 1⟩))
                          have HSG2 := Hd (fun W (hg : w7.grownBy W (some w2.heap.size)) => (show W.cell? ⟨wr.heap.size, 0, none⟩ = some (.int .i64 x.op) ∧ W.cell? ⟨T9, 0, none⟩ = some (.slice ga o.loc.length gc1) ∧ W.cell? ⟨T9, 1, none⟩ = some (.slice gb o.st.length gc2) from ⟨(gb_blk hg HIe.out (by omega)).cell 0, (gb_blk hg HKe.out (by omega)).cell 0, (gb_blk hg HKe.out (by omega)).cell 1⟩))
                          have o0 := HTe.out.cell 0
                          have o1 := HTe.out.cell 1
                          have o2 := HTe.out.frozen 0
                          have o3 := HTe.out.frozen 1
                          have o4 := HTe.out.lt
                          go_upto_region 25 with fail
                          go_region_held3 (fun W' => W'.cell? ⟨wr.heap.size, 0, none⟩ = some (.int .i64 x.op) ∧ W'.cell? ⟨T9, 0, none⟩ = some (.slice ga o.loc.length gc1) ∧ W'.cell? ⟨T9, 1, none⟩ = some (.slice gb o.st.length gc2))
                            (first | exact HSC2.out _ (Below.refl _ _) | exact HSC2.out _ (Below.refl _ _).drew | exact HSG2.out _ (gb_drew (gb_set (gb_set (gb_refl _ _) 0 _) 1 _)) | exact HSG2.out _ (gb_set (gb_set (gb_refl _ _) 0 _) 1 _) | exact HSG2.out _ (gb_set (gb_set (gb_drew (gb_refl _ _)) 0 _) 1 _))
                            ((go_at_call 99
                              refine (ends_calls x.op _).mono ?_
                              rintro e wz ⟨rfl, rfl⟩))
                          all_goals
                            obtain ⟨w9, hw9⟩ : ∃ w9, w9 = ((w7.setCell ⟨w2.heap.size, 0, none⟩ (.slice ga o.loc.length gc1)).setCell ⟨w2.heap.size, 1, none⟩ (.slice gb o.st.length gc2)).drew := ⟨_, rfl⟩
                            have HT9 := Hd (show Blk w9 w2.heap.size 60 #[.slice ga o.loc.length gc1, .slice gb o.st.length gc2] by rw [hw9]; exact (blk_set (blk_set HTe.out 0 _) 1 _).drew)
                            have hgb : w7.grownBy w9 (some w2.heap.size) := by rw [hw9]; exact gb_drew (gb_set (gb_set (gb_refl _ _) 0 _) 1 _)
                            have HB9 := Hd (show Below w2.heap.size w2 w9 by rw [hw9]; exact ((HBe.out.setCell (p := ⟨w2.heap.size, 0, none⟩) (Nat.le_refl _) _).setCell (p := ⟨w2.heap.size, 1, none⟩) (Nat.le_refl _) _).drew)
                            have HF9 := Hd (show FrAt w9 o ⟨ga, gc1, gb, gc2⟩ from ⟨gb_srow hgb HOe.out.1 (fun ad e => by have := HGN.out.1 ad e; omega), gb_srow hgb HOe.out.2 (fun ad e => by have := HGN.out.2 ad e; omega)⟩)
                            have HFAR9 := Hd (show FarF w2.heap.size w2.heap.size (.slice none 0 0) o ⟨ga, gc1, gb, gc2⟩ from FarF.new (n := wr.heap.size) (by omega) (by omega) (fun k hk => by cases hk) ⟨fun ad e => by have := HGN.out.1 ad e; omega, fun ad e => by have := HGN.out.2 ad e; omega⟩)
                            have hsz9 : w2.heap.size < w9.heap.size := HT9.out.lt
                            rw [← hw9]
                            clear hw9 hgb o0 o1 o2 o3 o4 HSC2 HSG2
                            go_wp2_with fail
                            go_roundw
                            case rel => exact ⟨k + 1, o, ⟨ga, gc1, gb, gc2⟩, !endsB x.op, by omega, by go_num, rfl, HB9.out, HT9.out, HF9.out, HFAR9.out, HKO5.out, hsz9, HRn⟩
                            case measure => simp [RowKit.intOf]; omega
            | some mm =>
              rw [hmk] at hF4
              obtain ⟨qm, hqv, hqm⟩ := hF4
              have hkm := HMK.out _ _ hmk
              have hlkp := IMap.look_some (P := Tryz.prog) (w := w4) (k := 3) (t := 102) (e := 60) Tryz.underlying3 Tryz.underlying102 hI4 (wf_nat k (by omega)) hqv true
              simp only [if_true] at hlkp
              unfold frV at hlkp
              obtain ⟨w0, hw0⟩ : ∃ w0, w0 = w4.alloc (.cells #[.slice qm.la mm.loc.length qm.lc, .slice qm.sa mm.st.length qm.sc] 60) := ⟨_, rfl⟩
              have hb0 : Below wr.heap.size wr w0 := by rw [hw0]; exact bl_alloc hb4 _
              have HB0 := Hd hb0
              have HM0 := Hd (show Blk w0 (wr.heap.size + 1) 60 #[.slice qm.la mm.loc.length qm.lc, .slice qm.sa mm.st.length qm.sc] by rw [hw0]; exact blk_new _ _ _ _ hs4.symm)
              have HI0' := Hd (show Blk w0 wr.heap.size 35 (insArr x) by rw [hw0]; exact HI4.out.alloc _)
              have HT0 := Hd (HTk.out.below hb0)
              have HF0' := Hd (HFk.out.below hb0)
              have HKt := Hd hkm
              have HMKK := Hd hmk
              have HQM := Hd hqm
              have HFARt := Hd (show FarF w2.heap.size w2.heap.size (.slice none 0 0) mm qm from by
                have far : ∀ {a : Option Addr} {cp : Nat} {X : List Nm}, SRow w a cp X → FarS w2.heap.size w2.heap.size (.slice none 0 0) a X := fun {a cp X} h => by
                  obtain ⟨_, h2 | ⟨bb, off, rfl, hl, _⟩⟩ := h
                  · exact Or.inl h2
                  · exact Or.inr (fun ad e => by cases e; exact ⟨by show bb ≠ _; omega, by show bb ≠ _; omega, fun e2 => by cases e2⟩)
                exact ⟨far hqm.1, far hqm.2⟩)
              have HME := Hd (meets_calls l L K MB b m p M (k : Int) g q w0 (HW.out.below (bl_trans HBw.out hb0)) (HL.out.below (bl_trans HBw.out hb0)) (by omega) HF0'.out HKk.out HMK.out)
              unfold frV at HME
              have v0 := HT0.out.cell 0
              have v1 := HT0.out.cell 1
              have v2 := HT0.out.lt
              clear hI4 hqv hqm hkm hmk hb4 hb0
              cases live with
              | false =>
                have HRt := Hd (show R = stepB (wl l) (cFn (wl l)) (afterF (wl l) c gv) m.hs M x (m.code.drop (k + 1)) k mm by rw [HRk.out, HDR.out, wk_map HMKK.out (Or.inl rfl)])
                have HX0 := HB0
                have HMX := HM0
                have HIX := HI0'
                have HTX := HT0
                go_upto_region 15 with fail
                rw [← hw0]
                clear hw0 hlkp c1 c2 v0 v1 v2
                have o0 := HTX.out.cell 0
                have o1 := HTX.out.cell 1
                have o2 := HTX.out.frozen 0
                have o3 := HTX.out.frozen 1
                have o4 := HTX.out.lt
                have o5 := HMX.out.cell 0
                have o6 := HMX.out.cell 1
                have o7 := HMX.out.lt
                obtain ⟨wt, hwt⟩ : ∃ wt, wt = (w0.setCell ⟨w2.heap.size, 0, none⟩ (.slice qm.la mm.loc.length qm.lc)).setCell ⟨w2.heap.size, 1, none⟩ (.slice qm.sa mm.st.length qm.sc) := ⟨_, rfl⟩
                have hgb : w0.grownBy wt (some w2.heap.size) := by rw [hwt]; exact gb_set (gb_set (gb_refl _ _) 0 _) 1 _
                have HTt := Hd (show Blk wt w2.heap.size 60 #[.slice qm.la mm.loc.length qm.lc, .slice qm.sa mm.st.length qm.sc] by rw [hwt]; exact blk_set (blk_set HTX.out 0 _) 1 _)
                have HBt := Hd (show Below w2.heap.size w2 wt by rw [hwt]; exact ((HBk.out.trans (HX0.out.mono HBk.out.size)).setCell (p := ⟨w2.heap.size, 0, none⟩) (Nat.le_refl _) _).setCell (p := ⟨w2.heap.size, 1, none⟩) (Nat.le_refl _) _)
                have HBwt := Hd (show Below w.heap.size w wt from HB2.out.trans (HBt.out.mono hs2))
                have HFt := Hd (HQM.out.below HBwt.out)
                have HIt := Hd (gb_blk hgb HIX.out (by omega))
                have HWt := Hd (HL.out.below HBwt.out)
                have HWWt := Hd (HW.out.below HBwt.out)
                have HMt := Hd (HM.out.below HBwt.out)
                have hst : wr.heap.size ≤ wt.heap.size := Nat.le_trans HX0.out.size hgb.size
                obtain ⟨f1, hf1⟩ : ∃ f1, f1 = mm := ⟨mm, rfl⟩
                subst hf1
                obtain ⟨q1, hq1⟩ : ∃ q1, q1 = qm := ⟨qm, rfl⟩
                subst hq1
                clear hgb
                go_upto_region 20 with fail
                rw [← hwt]
                clear hwt o0 o1 o2 o3 o4 o5 o6 o7
                have HCA := Hd (wcaught_calls l L K MB b m p M k f1 q1 wt HWWt.out HWt.out HMt.out HMO.out HFt.out HKt.out HMK.out)
                unfold frV at HCA
                have x0 := HTt.out.cell 0
                have x1 := HTt.out.cell 1
                have x2 := HTt.out.lt
                cases hcap : capB (wl l) (cFn (wl l)) m.hs M k f1 with
                | false =>
                  rw [hcap] at HCA
                  have HE := Hd (show R = false by rw [HRt.out, step_cap hcap])
                  clear hcap
                  go_wp2_with fail
                  refine HCA.out.mono ?_
                  rintro e w6 ⟨rfl, hb6⟩
                  have HB6 := Hd (show Below w.heap.size w w6 from bl_trans (HB2.out.trans (HBt.out.mono hs2)) hb6)
                  clear hb6
                  go_wp2_with fail
                  go_ret
                  exact ⟨by rw [HE.out]; rfl, HB6.out⟩
                | true =>
                  rw [hcap] at HCA
                  have HCAP := Hd hcap
                  clear hcap
                  go_wp2_with fail
                  refine HCA.out.mono ?_
                  rintro e w6 ⟨rfl, hb6⟩
                  have HT6 := Hd (HTt.out.below hb6)
                  have HI6 := Hd (HIt.out.below hb6)
                  have HF6 := Hd (HFt.out.below hb6)
                  have HW6 := Hd (HWt.out.below hb6)
                  have HWW6 := Hd (HWWt.out.below hb6)
                  have HB6 := Hd (HBt.out.trans (hb6.mono HBt.out.size))
                  have hs6 := hb6.size
                  have hi6 := HI6.out.lt
                  have HAF := Hd (fun W (hw : Below w6.heap.size w6 W) => (safter_calls l L b c gv x f1 q1 W (HWW6.out.below hw) (HF6.out.below hw) HKt.out HXI.out HGV.out HC.out HXT.out).mono (fun e w' h => saftres h))
                  have HSC := Hd (fun W (hw : Below w6.heap.size w6 W) => (show W.cell? ⟨K, 0, none⟩ = some (.map (some b)) ∧ W.cell? ⟨wr.heap.size, 0, none⟩ = some (.int .i64 x.op) ∧ W.cell? ⟨wr.heap.size, 1, none⟩ = some (.int .i64 x.a) ∧ W.cell? ⟨wr.heap.size, 2, none⟩ = some (.int .i64 x.b) ∧ W.cell? ⟨wr.heap.size, 3, none⟩ = some (.string ⟨⟨x.ty⟩⟩) ∧ W.cell? ⟨wr.heap.size, 4, none⟩ = some (.string ⟨⟨x.cl⟩⟩) ∧ W.cell? ⟨wr.heap.size, 5, none⟩ = some (.string ⟨⟨x.nm⟩⟩) ∧ W.cell? ⟨w2.heap.size, 0, none⟩ = some (.slice q1.la f1.loc.length q1.lc) ∧ W.cell? ⟨w2.heap.size, 1, none⟩ = some (.slice q1.sa f1.st.length q1.sc) from
                    ⟨(HW6.out.below hw).blk.cell 0, (HI6.out.below hw).cell 0, (HI6.out.below hw).cell 1, (HI6.out.below hw).cell 2, (HI6.out.below hw).cell 3, (HI6.out.below hw).cell 4, (HI6.out.below hw).cell 5, (HT6.out.below hw).cell 0, (HT6.out.below hw).cell 1⟩))
                  have HAL := Hd (show Below w6.heap.size w6 (w6.alloc (.cells #[.slice none 0 0, .slice none 0 0] 60)).drew from (bl_alloc (Below.refl _ _) _).drew)
                  have HZ1 := Hd (show Blk (w6.alloc (.cells #[.slice none 0 0, .slice none 0 0] 60)).drew w6.heap.size 60 #[.slice none 0 0, .slice none 0 0] from blk_new _ _ _ _ rfl)
                  have c3 := HW6.out.blk.lt
                  unfold frV insV at HAF
                  clear hb6 x0 x1 x2
                  go_upto_region 22 with fail
                  go_region_held3 (fun W' => W'.cell? ⟨K, 0, none⟩ = some (.map (some b)) ∧ W'.cell? ⟨wr.heap.size, 0, none⟩ = some (.int .i64 x.op) ∧ W'.cell? ⟨wr.heap.size, 1, none⟩ = some (.int .i64 x.a) ∧ W'.cell? ⟨wr.heap.size, 2, none⟩ = some (.int .i64 x.b) ∧ W'.cell? ⟨wr.heap.size, 3, none⟩ = some (.string ⟨⟨x.ty⟩⟩) ∧ W'.cell? ⟨wr.heap.size, 4, none⟩ = some (.string ⟨⟨x.cl⟩⟩) ∧ W'.cell? ⟨wr.heap.size, 5, none⟩ = some (.string ⟨⟨x.nm⟩⟩) ∧ W'.cell? ⟨w2.heap.size, 0, none⟩ = some (.slice q1.la f1.loc.length q1.lc) ∧ W'.cell? ⟨w2.heap.size, 1, none⟩ = some (.slice q1.sa f1.st.length q1.sc))
                    (first | exact HSC.out _ (Below.refl _ _) | exact HSC.out _ (Below.refl _ _).drew | exact HSC.out _ HAL.out | exact HSC.out _ (bl_alloc (Below.refl _ _) _) | exact HSC.out _ (bl_alloc (Below.refl _ _).drew _) | exact HSC.out _ hb5 | exact HSC.out _ hb5.drew | exact HSC.out _ hbA | exact HSC.out _ (bl_alloc hbA _))
                    ((first
                    | (go_at_call 48
                       with_reducible refine (HAF.out w6.drew (Below.refl _ _).drew).mono ?_
                       rintro e wb ⟨ga, gb, n1, gc1, n2, gc2, is, rfl, hbb, hor⟩
                       have hbA := bl_trans (Below.refl w6.heap.size w6).drew hbb
                       obtain ⟨w5, hst5, hb5', hk5⟩ := fstore_new wb ga n1 gc1 gb n2 gc2
                       have hb5 := bl_trans hbA hb5'
                       have hfa : ∀ g, FrAt wb g ⟨ga, gc1, gb, gc2⟩ → FNew w6.drew.heap.size ⟨ga, gc1, gb, gc2⟩ → FrAt w5 g ⟨ga, gc1, gb, gc2⟩ ∧ FNew w6.heap.size ⟨ga, gc1, gb, gc2⟩ := fun g h hn => ⟨h.below hb5', hn⟩
                       have hsb5 : wb.heap.size ≤ w5.heap.size := hb5'.size
                       have ht5 : w6.heap.size ≤ wb.heap.size := hbA.size
                       obtain ⟨T9, hT9⟩ : ∃ T, T = wb.heap.size := ⟨_, rfl⟩)
                    | (go_at_call 48
                       with_reducible refine (HAF.out (w6.alloc (.cells #[.slice none 0 0, .slice none 0 0] 60)).drew HAL.out).mono ?_
                       rintro e wb ⟨ga, gb, n1, gc1, n2, gc2, is, rfl, hbb, hor⟩
                       have hbA := bl_trans HAL.out hbb
                       obtain ⟨w5, hst5, hg5, hk5⟩ := fstore_old wb w6.heap.size ga n1 gc1 gb n2 gc2 (HZ1.out.below hbb)
                       have hb5 := gb_to_below hbA hg5 (Nat.le_refl _)
                       have hfa : ∀ g, FrAt wb g ⟨ga, gc1, gb, gc2⟩ → FNew (w6.alloc (.cells #[.slice none 0 0, .slice none 0 0] 60)).drew.heap.size ⟨ga, gc1, gb, gc2⟩ → FrAt w5 g ⟨ga, gc1, gb, gc2⟩ ∧ FNew w6.heap.size ⟨ga, gc1, gb, gc2⟩ := fun g h hn => by
                         have e9 : (w6.alloc (.cells #[.slice none 0 0, .slice none 0 0] 60)).drew.heap.size = w6.heap.size + 1 := by show (w6.alloc _).heap.size = _; simp
                         rw [e9] at hn
                         exact ⟨⟨gb_srow hg5 h.1 (fun ad e => by have := hn.1 ad e; omega), gb_srow hg5 h.2 (fun ad e => by have := hn.2 ad e; omega)⟩, ⟨fun ad e => by have := hn.1 ad e; omega, fun ad e => by have := hn.2 ad e; omega⟩⟩
                       have hsb5 : wb.heap.size ≤ w5.heap.size := hg5.size
                       have ht5 : w6.heap.size ≤ w6.heap.size := Nat.le_refl _
                       obtain ⟨T9, hT9⟩ : ∃ T, T = w6.heap.size := ⟨_, rfl⟩)))
                  all_goals
                    rw [← hT9]
                    have ht9 : w6.heap.size ≤ T9 := by omega
                    have HK5 := Hd (show Blk w5 T9 60 (slc ga n1 gc1 gb n2 gc2) by rw [hT9]; exact hk5)
                    have HI5 := Hd (HI6.out.below hb5)
                    have HT5 := Hd (HT6.out.below hb5)
                    have HB5 := Hd (show Below w2.heap.size w2 w5 from HB6.out.trans (hb5.mono HB6.out.size))
                    have HW5 := Hd (HW6.out.below hb5)
                    have HWW5 := Hd (HWW6.out.below hb5)
                    have HFA := Hd hfa
                    have HBE := Hd (show Below w.heap.size w w5 from HB2.out.trans (HB5.out.mono hs2))
                    have hs65 := hb5.size
                    clear hT9 hst5 hb5 hk5 hbA hbb hfa
                    rcases hor with ⟨rfl, hno⟩ | ⟨rfl, o, haf, hko, rfl, rfl, hga, hgn⟩
                    · have HE := Hd (show R = false by rw [HRt.out, step_none HCAP.out hno])
                      clear hno
                      go_wp2_with fail
                      go_ret
                      exact ⟨by rw [HE.out]; rfl, HBE.out⟩
                    · obtain ⟨hfo, hgn'⟩ := HFA.out o hga hgn
                      have HO5 := Hd hfo
                      have HGN := Hd hgn'
                      have HKO5 := Hd hko
                      have HAFO := Hd haf
                      have HJ := Hd (fun w => jumps_same x.op w)
                      have y0 := HI5.out.cell 0
                      have y1 := HI5.out.cell 1
                      have y2 := HI5.out.lt
                      have z0 := HK5.out.cell 0
                      have z1 := HK5.out.cell 1
                      have z2 := HK5.out.lt
                      unfold slc at z0 z1
                      unfold insArr at y0 y1
                      clear haf hko hga hgn hfo hgn' HAF HSC HAL HZ1 HFA
                      cases hju : jumpsB x.op with
                      | false =>
                        rw [hju] at HJ
                        have HRn := Hd (show R = wkF (wl l) (cFn (wl l)) (afterF (wl l) c gv) m.hs M (m.code.drop (k + 1)) (k + 1) o (!endsB x.op) by rw [HRt.out, step_next HCAP.out HAFO.out (Or.inl hju)])
                        clear hju
                        go_wp2_with fail
                        refine (HJ.out _).mono ?_
                        rintro e wz ⟨rfl, rfl⟩
                        have HIe := HI5
                        have HKe := Hd (show Blk w5 T9 60 #[.slice ga o.loc.length gc1, .slice gb o.st.length gc2] from HK5.out)
                        have HTe := HT5
                        have HBe := HB5
                        have HOe := HO5
                        clear y0 y1 y2 z0 z1 z2
                        have HSC2 := Hd (fun W (hw : Below w5.heap.size w5 W) => (show W.cell? ⟨wr.heap.size, 0, none⟩ = some (.int .i64 x.op) ∧ W.cell? ⟨T9, 0, none⟩ = some (.slice ga o.loc.length gc1) ∧ W.cell? ⟨T9, 1, none⟩ = some (.slice gb o.st.length gc2) from ⟨(HIe.out.below hw).cell 0, (HKe.out.below hw).cell 0, (HKe.out.below hw).cell 1⟩))
                        have HSG2 := Hd (fun W (hg : w5.grownBy W (some w2.heap.size)) => (show W.cell? ⟨wr.heap.size, 0, none⟩ = some (.int .i64 x.op) ∧ W.cell? ⟨T9, 0, none⟩ = some (.slice ga o.loc.length gc1) ∧ W.cell? ⟨T9, 1, none⟩ = some (.slice gb o.st.length gc2) from ⟨(gb_blk hg HIe.out (by omega)).cell 0, (gb_blk hg HKe.out (by omega)).cell 0, (gb_blk hg HKe.out (by omega)).cell 1⟩))
                        have o0 := HTe.out.cell 0
                        have o1 := HTe.out.cell 1
                        have o2 := HTe.out.frozen 0
                        have o3 := HTe.out.frozen 1
                        have o4 := HTe.out.lt
                        go_upto_region 25 with fail
                        go_region_held3 (fun W' => W'.cell? ⟨wr.heap.size, 0, none⟩ = some (.int .i64 x.op) ∧ W'.cell? ⟨T9, 0, none⟩ = some (.slice ga o.loc.length gc1) ∧ W'.cell? ⟨T9, 1, none⟩ = some (.slice gb o.st.length gc2))
                          (first | exact HSC2.out _ (Below.refl _ _) | exact HSC2.out _ (Below.refl _ _).drew | exact HSG2.out _ (gb_drew (gb_set (gb_set (gb_refl _ _) 0 _) 1 _)) | exact HSG2.out _ (gb_set (gb_set (gb_refl _ _) 0 _) 1 _) | exact HSG2.out _ (gb_set (gb_set (gb_drew (gb_refl _ _)) 0 _) 1 _))
                          ((go_at_call 99
                            refine (ends_calls x.op _).mono ?_
                            rintro e wz ⟨rfl, rfl⟩))
                        all_goals
                          obtain ⟨w9, hw9⟩ : ∃ w9, w9 = ((w5.setCell ⟨w2.heap.size, 0, none⟩ (.slice ga o.loc.length gc1)).setCell ⟨w2.heap.size, 1, none⟩ (.slice gb o.st.length gc2)).drew := ⟨_, rfl⟩
                          have HT9 := Hd (show Blk w9 w2.heap.size 60 #[.slice ga o.loc.length gc1, .slice gb o.st.length gc2] by rw [hw9]; exact (blk_set (blk_set HTe.out 0 _) 1 _).drew)
                          have hgb : w5.grownBy w9 (some w2.heap.size) := by rw [hw9]; exact gb_drew (gb_set (gb_set (gb_refl _ _) 0 _) 1 _)
                          have HB9 := Hd (show Below w2.heap.size w2 w9 by rw [hw9]; exact ((HBe.out.setCell (p := ⟨w2.heap.size, 0, none⟩) (Nat.le_refl _) _).setCell (p := ⟨w2.heap.size, 1, none⟩) (Nat.le_refl _) _).drew)
                          have HF9 := Hd (show FrAt w9 o ⟨ga, gc1, gb, gc2⟩ from ⟨gb_srow hgb HOe.out.1 (fun ad e => by have := HGN.out.1 ad e; omega), gb_srow hgb HOe.out.2 (fun ad e => by have := HGN.out.2 ad e; omega)⟩)
                          have HFAR9 := Hd (show FarF w2.heap.size w2.heap.size (.slice none 0 0) o ⟨ga, gc1, gb, gc2⟩ from FarF.new (n := wr.heap.size) (by omega) (by omega) (fun k hk => by cases hk) ⟨fun ad e => by have := HGN.out.1 ad e; omega, fun ad e => by have := HGN.out.2 ad e; omega⟩)
                          have hsz9 : w2.heap.size < w9.heap.size := HT9.out.lt
                          rw [← hw9]
                          clear hw9 hgb o0 o1 o2 o3 o4 HSC2 HSG2
                          go_wp2_with fail
                          go_roundw
                          case rel => exact ⟨k + 1, o, ⟨ga, gc1, gb, gc2⟩, !endsB x.op, by omega, by go_num, rfl, HB9.out, HT9.out, HF9.out, HFAR9.out, HKO5.out, hsz9, HRn⟩
                          case measure => simp [RowKit.intOf]; omega
                      | true =>
                        rw [hju] at HJ
                        have HJU := Hd hju
                        obtain ⟨ra0, ra1, _, _⟩ := jumps_ranged HXI.out hju
                        have HME := Hd (meets_calls l L K MB b m p M x.a o ⟨ga, gc1, gb, gc2⟩ w5 HWW5.out HW5.out (by omega) HO5.out HKO5.out HMK.out)
                        unfold frV at HME
                        clear hju
                        cases hmb : meetsB (wl l) M x.a o with
                        | false =>
                          rw [hmb] at HME
                          have HE := Hd (show R = false by rw [HRt.out, step_jump HCAP.out HAFO.out HJU.out hmb])
                          clear hmb
                          go_wp2_with fail
                          refine (HJ.out _).mono ?_
                          rintro e wz ⟨rfl, rfl⟩
                          go_wp2_with fail
                          refine HME.out.mono ?_
                          rintro e w7 ⟨rfl, hb7⟩
                          have HB7 := Hd (bl_trans HBE.out hb7)
                          clear hb7
                          go_wp2_with fail
                          go_ret
                          exact ⟨by rw [HE.out]; rfl, HB7.out⟩
                        | true =>
                          rw [hmb] at HME
                          have HRn := Hd (show R = wkF (wl l) (cFn (wl l)) (afterF (wl l) c gv) m.hs M (m.code.drop (k + 1)) (k + 1) o (!endsB x.op) by rw [HRt.out, step_next HCAP.out HAFO.out (Or.inr hmb)])
                          clear hmb
                          go_wp2_with fail
                          refine (HJ.out _).mono ?_
                          rintro e wz ⟨rfl, rfl⟩
                          go_wp2_with fail
                          refine HME.out.mono ?_
                          rintro e w7 ⟨rfl, hb7⟩
                          have HIe := Hd (HI5.out.below hb7)
                          have HKe := Hd ((show Blk w5 T9 60 #[.slice ga o.loc.length gc1, .slice gb o.st.length gc2] from HK5.out).below hb7)
                          have HTe := Hd (HT5.out.below hb7)
                          have HBe := Hd (HB5.out.trans (hb7.mono HB5.out.size))
                          have HOe := Hd (HO5.out.below hb7)
                          clear hb7 y0 y1 y2 z0 z1 z2
                          have HSC2 := Hd (fun W (hw : Below w7.heap.size w7 W) => (show W.cell? ⟨wr.heap.size, 0, none⟩ = some (.int .i64 x.op) ∧ W.cell? ⟨T9, 0, none⟩ = some (.slice ga o.loc.length gc1) ∧ W.cell? ⟨T9, 1, none⟩ = some (.slice gb o.st.length gc2) from ⟨(HIe.out.below hw).cell 0, (HKe.out.below hw).cell 0, (HKe.out.below hw).cell 1⟩))
                          have HSG2 := Hd (fun W (hg : w7.grownBy W (some w2.heap.size)) => (show W.cell? ⟨wr.heap.size, 0, none⟩ = some (.int .i64 x.op) ∧ W.cell? ⟨T9, 0, none⟩ = some (.slice ga o.loc.length gc1) ∧ W.cell? ⟨T9, 1, none⟩ = some (.slice gb o.st.length gc2) from ⟨(gb_blk hg HIe.out (by omega)).cell 0, (gb_blk hg HKe.out (by omega)).cell 0, (gb_blk hg HKe.out (by omega)).cell 1⟩))
                          have o0 := HTe.out.cell 0
                          have o1 := HTe.out.cell 1
                          have o2 := HTe.out.frozen 0
                          have o3 := HTe.out.frozen 1
                          have o4 := HTe.out.lt
                          go_upto_region 25 with fail
                          go_region_held3 (fun W' => W'.cell? ⟨wr.heap.size, 0, none⟩ = some (.int .i64 x.op) ∧ W'.cell? ⟨T9, 0, none⟩ = some (.slice ga o.loc.length gc1) ∧ W'.cell? ⟨T9, 1, none⟩ = some (.slice gb o.st.length gc2))
                            (first | exact HSC2.out _ (Below.refl _ _) | exact HSC2.out _ (Below.refl _ _).drew | exact HSG2.out _ (gb_drew (gb_set (gb_set (gb_refl _ _) 0 _) 1 _)) | exact HSG2.out _ (gb_set (gb_set (gb_refl _ _) 0 _) 1 _) | exact HSG2.out _ (gb_set (gb_set (gb_drew (gb_refl _ _)) 0 _) 1 _))
                            ((go_at_call 99
                              refine (ends_calls x.op _).mono ?_
                              rintro e wz ⟨rfl, rfl⟩))
                          all_goals
                            obtain ⟨w9, hw9⟩ : ∃ w9, w9 = ((w7.setCell ⟨w2.heap.size, 0, none⟩ (.slice ga o.loc.length gc1)).setCell ⟨w2.heap.size, 1, none⟩ (.slice gb o.st.length gc2)).drew := ⟨_, rfl⟩
                            have HT9 := Hd (show Blk w9 w2.heap.size 60 #[.slice ga o.loc.length gc1, .slice gb o.st.length gc2] by rw [hw9]; exact (blk_set (blk_set HTe.out 0 _) 1 _).drew)
                            have hgb : w7.grownBy w9 (some w2.heap.size) := by rw [hw9]; exact gb_drew (gb_set (gb_set (gb_refl _ _) 0 _) 1 _)
                            have HB9 := Hd (show Below w2.heap.size w2 w9 by rw [hw9]; exact ((HBe.out.setCell (p := ⟨w2.heap.size, 0, none⟩) (Nat.le_refl _) _).setCell (p := ⟨w2.heap.size, 1, none⟩) (Nat.le_refl _) _).drew)
                            have HF9 := Hd (show FrAt w9 o ⟨ga, gc1, gb, gc2⟩ from ⟨gb_srow hgb HOe.out.1 (fun ad e => by have := HGN.out.1 ad e; omega), gb_srow hgb HOe.out.2 (fun ad e => by have := HGN.out.2 ad e; omega)⟩)
                            have HFAR9 := Hd (show FarF w2.heap.size w2.heap.size (.slice none 0 0) o ⟨ga, gc1, gb, gc2⟩ from FarF.new (n := wr.heap.size) (by omega) (by omega) (fun k hk => by cases hk) ⟨fun ad e => by have := HGN.out.1 ad e; omega, fun ad e => by have := HGN.out.2 ad e; omega⟩)
                            have hsz9 : w2.heap.size < w9.heap.size := HT9.out.lt
                            rw [← hw9]
                            clear hw9 hgb o0 o1 o2 o3 o4 HSC2 HSG2
                            go_wp2_with fail
                            go_roundw
                            case rel => exact ⟨k + 1, o, ⟨ga, gc1, gb, gc2⟩, !endsB x.op, by omega, by go_num, rfl, HB9.out, HT9.out, HF9.out, HFAR9.out, HKO5.out, hsz9, HRn⟩
                            case measure => simp [RowKit.intOf]; omega
              | true =>
                cases hmb : meetsB (wl l) M (k : Int) g with
                | false =>
                  rw [hmb] at HME
                  have HE := Hd (show R = false by rw [HRk.out, HDR.out, wk_bad HMKK.out rfl hmb])
                  clear hmb
                  go_upto_region 15 with fail
                  rw [← hw0]
                  clear hw0 hlkp c1 c2
                  go_wp2_with fail
                  refine HME.out.mono ?_
                  rintro e w7 ⟨rfl, hb7⟩
                  have HB7 := Hd (bl_trans HBw.out (bl_trans HB0.out hb7))
                  clear hb7
                  go_wp2_with fail
                  go_ret
                  exact ⟨by rw [HE.out]; rfl, HB7.out⟩
                | true =>
                  rw [hmb] at HME
                  have HRt := Hd (show R = stepB (wl l) (cFn (wl l)) (afterF (wl l) c gv) m.hs M x (m.code.drop (k + 1)) k mm by rw [HRk.out, HDR.out, wk_map HMKK.out (Or.inr hmb)])
                  clear hmb
                  go_upto_region 15 with fail
                  rw [← hw0]
                  clear hw0 hlkp c1 c2
                  go_wp2_with fail
                  refine HME.out.mono ?_
                  rintro e w7 ⟨rfl, hb7⟩
                  have HX0 := Hd (bl_trans HB0.out hb7)
                  have HMX := Hd (HM0.out.below hb7)
                  have HIX := Hd (HI0'.out.below hb7)
                  have HTX := Hd (HT0.out.below hb7)
                  clear hb7 v0 v1 v2
                  have o0 := HTX.out.cell 0
                  have o1 := HTX.out.cell 1
                  have o2 := HTX.out.frozen 0
                  have o3 := HTX.out.frozen 1
                  have o4 := HTX.out.lt
                  have o5 := HMX.out.cell 0
                  have o6 := HMX.out.cell 1
                  have o7 := HMX.out.lt
                  obtain ⟨wt, hwt⟩ : ∃ wt, wt = (w7.setCell ⟨w2.heap.size, 0, none⟩ (.slice qm.la mm.loc.length qm.lc)).setCell ⟨w2.heap.size, 1, none⟩ (.slice qm.sa mm.st.length qm.sc) := ⟨_, rfl⟩
                  have hgb : w7.grownBy wt (some w2.heap.size) := by rw [hwt]; exact gb_set (gb_set (gb_refl _ _) 0 _) 1 _
                  have HTt := Hd (show Blk wt w2.heap.size 60 #[.slice qm.la mm.loc.length qm.lc, .slice qm.sa mm.st.length qm.sc] by rw [hwt]; exact blk_set (blk_set HTX.out 0 _) 1 _)
                  have HBt := Hd (show Below w2.heap.size w2 wt by rw [hwt]; exact ((HBk.out.trans (HX0.out.mono HBk.out.size)).setCell (p := ⟨w2.heap.size, 0, none⟩) (Nat.le_refl _) _).setCell (p := ⟨w2.heap.size, 1, none⟩) (Nat.le_refl _) _)
                  have HBwt := Hd (show Below w.heap.size w wt from HB2.out.trans (HBt.out.mono hs2))
                  have HFt := Hd (HQM.out.below HBwt.out)
                  have HIt := Hd (gb_blk hgb HIX.out (by omega))
                  have HWt := Hd (HL.out.below HBwt.out)
                  have HWWt := Hd (HW.out.below HBwt.out)
                  have HMt := Hd (HM.out.below HBwt.out)
                  have hst : wr.heap.size ≤ wt.heap.size := Nat.le_trans HX0.out.size hgb.size
                  obtain ⟨f1, hf1⟩ : ∃ f1, f1 = mm := ⟨mm, rfl⟩
                  subst hf1
                  obtain ⟨q1, hq1⟩ : ∃ q1, q1 = qm := ⟨qm, rfl⟩
                  subst hq1
                  clear hgb
                  go_upto_region 20 with fail
                  rw [← hwt]
                  clear hwt o0 o1 o2 o3 o4 o5 o6 o7
                  have HCA := Hd (wcaught_calls l L K MB b m p M k f1 q1 wt HWWt.out HWt.out HMt.out HMO.out HFt.out HKt.out HMK.out)
                  unfold frV at HCA
                  have x0 := HTt.out.cell 0
                  have x1 := HTt.out.cell 1
                  have x2 := HTt.out.lt
                  cases hcap : capB (wl l) (cFn (wl l)) m.hs M k f1 with
                  | false =>
                    rw [hcap] at HCA
                    have HE := Hd (show R = false by rw [HRt.out, step_cap hcap])
                    clear hcap
                    go_wp2_with fail
                    refine HCA.out.mono ?_
                    rintro e w6 ⟨rfl, hb6⟩
                    have HB6 := Hd (show Below w.heap.size w w6 from bl_trans (HB2.out.trans (HBt.out.mono hs2)) hb6)
                    clear hb6
                    go_wp2_with fail
                    go_ret
                    exact ⟨by rw [HE.out]; rfl, HB6.out⟩
                  | true =>
                    rw [hcap] at HCA
                    have HCAP := Hd hcap
                    clear hcap
                    go_wp2_with fail
                    refine HCA.out.mono ?_
                    rintro e w6 ⟨rfl, hb6⟩
                    have HT6 := Hd (HTt.out.below hb6)
                    have HI6 := Hd (HIt.out.below hb6)
                    have HF6 := Hd (HFt.out.below hb6)
                    have HW6 := Hd (HWt.out.below hb6)
                    have HWW6 := Hd (HWWt.out.below hb6)
                    have HB6 := Hd (HBt.out.trans (hb6.mono HBt.out.size))
                    have hs6 := hb6.size
                    have hi6 := HI6.out.lt
                    have HAF := Hd (fun W (hw : Below w6.heap.size w6 W) => (safter_calls l L b c gv x f1 q1 W (HWW6.out.below hw) (HF6.out.below hw) HKt.out HXI.out HGV.out HC.out HXT.out).mono (fun e w' h => saftres h))
                    have HSC := Hd (fun W (hw : Below w6.heap.size w6 W) => (show W.cell? ⟨K, 0, none⟩ = some (.map (some b)) ∧ W.cell? ⟨wr.heap.size, 0, none⟩ = some (.int .i64 x.op) ∧ W.cell? ⟨wr.heap.size, 1, none⟩ = some (.int .i64 x.a) ∧ W.cell? ⟨wr.heap.size, 2, none⟩ = some (.int .i64 x.b) ∧ W.cell? ⟨wr.heap.size, 3, none⟩ = some (.string ⟨⟨x.ty⟩⟩) ∧ W.cell? ⟨wr.heap.size, 4, none⟩ = some (.string ⟨⟨x.cl⟩⟩) ∧ W.cell? ⟨wr.heap.size, 5, none⟩ = some (.string ⟨⟨x.nm⟩⟩) ∧ W.cell? ⟨w2.heap.size, 0, none⟩ = some (.slice q1.la f1.loc.length q1.lc) ∧ W.cell? ⟨w2.heap.size, 1, none⟩ = some (.slice q1.sa f1.st.length q1.sc) from
                      ⟨(HW6.out.below hw).blk.cell 0, (HI6.out.below hw).cell 0, (HI6.out.below hw).cell 1, (HI6.out.below hw).cell 2, (HI6.out.below hw).cell 3, (HI6.out.below hw).cell 4, (HI6.out.below hw).cell 5, (HT6.out.below hw).cell 0, (HT6.out.below hw).cell 1⟩))
                    have HAL := Hd (show Below w6.heap.size w6 (w6.alloc (.cells #[.slice none 0 0, .slice none 0 0] 60)).drew from (bl_alloc (Below.refl _ _) _).drew)
                    have HZ1 := Hd (show Blk (w6.alloc (.cells #[.slice none 0 0, .slice none 0 0] 60)).drew w6.heap.size 60 #[.slice none 0 0, .slice none 0 0] from blk_new _ _ _ _ rfl)
                    have c3 := HW6.out.blk.lt
                    unfold frV insV at HAF
                    clear hb6 x0 x1 x2
                    go_upto_region 22 with fail
                    go_region_held3 (fun W' => W'.cell? ⟨K, 0, none⟩ = some (.map (some b)) ∧ W'.cell? ⟨wr.heap.size, 0, none⟩ = some (.int .i64 x.op) ∧ W'.cell? ⟨wr.heap.size, 1, none⟩ = some (.int .i64 x.a) ∧ W'.cell? ⟨wr.heap.size, 2, none⟩ = some (.int .i64 x.b) ∧ W'.cell? ⟨wr.heap.size, 3, none⟩ = some (.string ⟨⟨x.ty⟩⟩) ∧ W'.cell? ⟨wr.heap.size, 4, none⟩ = some (.string ⟨⟨x.cl⟩⟩) ∧ W'.cell? ⟨wr.heap.size, 5, none⟩ = some (.string ⟨⟨x.nm⟩⟩) ∧ W'.cell? ⟨w2.heap.size, 0, none⟩ = some (.slice q1.la f1.loc.length q1.lc) ∧ W'.cell? ⟨w2.heap.size, 1, none⟩ = some (.slice q1.sa f1.st.length q1.sc))
                      (first | exact HSC.out _ (Below.refl _ _) | exact HSC.out _ (Below.refl _ _).drew | exact HSC.out _ HAL.out | exact HSC.out _ (bl_alloc (Below.refl _ _) _) | exact HSC.out _ (bl_alloc (Below.refl _ _).drew _) | exact HSC.out _ hb5 | exact HSC.out _ hb5.drew | exact HSC.out _ hbA | exact HSC.out _ (bl_alloc hbA _))
                      ((first
                      | (go_at_call 48
                         with_reducible refine (HAF.out w6.drew (Below.refl _ _).drew).mono ?_
                         rintro e wb ⟨ga, gb, n1, gc1, n2, gc2, is, rfl, hbb, hor⟩
                         have hbA := bl_trans (Below.refl w6.heap.size w6).drew hbb
                         obtain ⟨w5, hst5, hb5', hk5⟩ := fstore_new wb ga n1 gc1 gb n2 gc2
                         have hb5 := bl_trans hbA hb5'
                         have hfa : ∀ g, FrAt wb g ⟨ga, gc1, gb, gc2⟩ → FNew w6.drew.heap.size ⟨ga, gc1, gb, gc2⟩ → FrAt w5 g ⟨ga, gc1, gb, gc2⟩ ∧ FNew w6.heap.size ⟨ga, gc1, gb, gc2⟩ := fun g h hn => ⟨h.below hb5', hn⟩
                         have hsb5 : wb.heap.size ≤ w5.heap.size := hb5'.size
                         have ht5 : w6.heap.size ≤ wb.heap.size := hbA.size
                         obtain ⟨T9, hT9⟩ : ∃ T, T = wb.heap.size := ⟨_, rfl⟩)
                      | (go_at_call 48
                         with_reducible refine (HAF.out (w6.alloc (.cells #[.slice none 0 0, .slice none 0 0] 60)).drew HAL.out).mono ?_
                         rintro e wb ⟨ga, gb, n1, gc1, n2, gc2, is, rfl, hbb, hor⟩
                         have hbA := bl_trans HAL.out hbb
                         obtain ⟨w5, hst5, hg5, hk5⟩ := fstore_old wb w6.heap.size ga n1 gc1 gb n2 gc2 (HZ1.out.below hbb)
                         have hb5 := gb_to_below hbA hg5 (Nat.le_refl _)
                         have hfa : ∀ g, FrAt wb g ⟨ga, gc1, gb, gc2⟩ → FNew (w6.alloc (.cells #[.slice none 0 0, .slice none 0 0] 60)).drew.heap.size ⟨ga, gc1, gb, gc2⟩ → FrAt w5 g ⟨ga, gc1, gb, gc2⟩ ∧ FNew w6.heap.size ⟨ga, gc1, gb, gc2⟩ := fun g h hn => by
                           have e9 : (w6.alloc (.cells #[.slice none 0 0, .slice none 0 0] 60)).drew.heap.size = w6.heap.size + 1 := by show (w6.alloc _).heap.size = _; simp
                           rw [e9] at hn
                           exact ⟨⟨gb_srow hg5 h.1 (fun ad e => by have := hn.1 ad e; omega), gb_srow hg5 h.2 (fun ad e => by have := hn.2 ad e; omega)⟩, ⟨fun ad e => by have := hn.1 ad e; omega, fun ad e => by have := hn.2 ad e; omega⟩⟩
                         have hsb5 : wb.heap.size ≤ w5.heap.size := hg5.size
                         have ht5 : w6.heap.size ≤ w6.heap.size := Nat.le_refl _
                         obtain ⟨T9, hT9⟩ : ∃ T, T = w6.heap.size := ⟨_, rfl⟩)))
                    all_goals
                      rw [← hT9]
                      have ht9 : w6.heap.size ≤ T9 := by omega
                      have HK5 := Hd (show Blk w5 T9 60 (slc ga n1 gc1 gb n2 gc2) by rw [hT9]; exact hk5)
                      have HI5 := Hd (HI6.out.below hb5)
                      have HT5 := Hd (HT6.out.below hb5)
                      have HB5 := Hd (show Below w2.heap.size w2 w5 from HB6.out.trans (hb5.mono HB6.out.size))
                      have HW5 := Hd (HW6.out.below hb5)
                      have HWW5 := Hd (HWW6.out.below hb5)
                      have HFA := Hd hfa
                      have HBE := Hd (show Below w.heap.size w w5 from HB2.out.trans (HB5.out.mono hs2))
                      have hs65 := hb5.size
                      clear hT9 hst5 hb5 hk5 hbA hbb hfa
                      rcases hor with ⟨rfl, hno⟩ | ⟨rfl, o, haf, hko, rfl, rfl, hga, hgn⟩
                      · have HE := Hd (show R = false by rw [HRt.out, step_none HCAP.out hno])
                        clear hno
                        go_wp2_with fail
                        go_ret
                        exact ⟨by rw [HE.out]; rfl, HBE.out⟩
                      · obtain ⟨hfo, hgn'⟩ := HFA.out o hga hgn
                        have HO5 := Hd hfo
                        have HGN := Hd hgn'
                        have HKO5 := Hd hko
                        have HAFO := Hd haf
                        have HJ := Hd (fun w => jumps_same x.op w)
                        have y0 := HI5.out.cell 0
                        have y1 := HI5.out.cell 1
                        have y2 := HI5.out.lt
                        have z0 := HK5.out.cell 0
                        have z1 := HK5.out.cell 1
                        have z2 := HK5.out.lt
                        unfold slc at z0 z1
                        unfold insArr at y0 y1
                        clear haf hko hga hgn hfo hgn' HAF HSC HAL HZ1 HFA
                        cases hju : jumpsB x.op with
                        | false =>
                          rw [hju] at HJ
                          have HRn := Hd (show R = wkF (wl l) (cFn (wl l)) (afterF (wl l) c gv) m.hs M (m.code.drop (k + 1)) (k + 1) o (!endsB x.op) by rw [HRt.out, step_next HCAP.out HAFO.out (Or.inl hju)])
                          clear hju
                          go_wp2_with fail
                          refine (HJ.out _).mono ?_
                          rintro e wz ⟨rfl, rfl⟩
                          have HIe := HI5
                          have HKe := Hd (show Blk w5 T9 60 #[.slice ga o.loc.length gc1, .slice gb o.st.length gc2] from HK5.out)
                          have HTe := HT5
                          have HBe := HB5
                          have HOe := HO5
                          clear y0 y1 y2 z0 z1 z2
                          have HSC2 := Hd (fun W (hw : Below w5.heap.size w5 W) => (show W.cell? ⟨wr.heap.size, 0, none⟩ = some (.int .i64 x.op) ∧ W.cell? ⟨T9, 0, none⟩ = some (.slice ga o.loc.length gc1) ∧ W.cell? ⟨T9, 1, none⟩ = some (.slice gb o.st.length gc2) from ⟨(HIe.out.below hw).cell 0, (HKe.out.below hw).cell 0, (HKe.out.below hw).cell 1⟩))
                          have HSG2 := Hd (fun W (hg : w5.grownBy W (some w2.heap.size)) => (show W.cell? ⟨wr.heap.size, 0, none⟩ = some (.int .i64 x.op) ∧ W.cell? ⟨T9, 0, none⟩ = some (.slice ga o.loc.length gc1) ∧ W.cell? ⟨T9, 1, none⟩ = some (.slice gb o.st.length gc2) from ⟨(gb_blk hg HIe.out (by omega)).cell 0, (gb_blk hg HKe.out (by omega)).cell 0, (gb_blk hg HKe.out (by omega)).cell 1⟩))
                          have o0 := HTe.out.cell 0
                          have o1 := HTe.out.cell 1
                          have o2 := HTe.out.frozen 0
                          have o3 := HTe.out.frozen 1
                          have o4 := HTe.out.lt
                          go_upto_region 25 with fail
                          go_region_held3 (fun W' => W'.cell? ⟨wr.heap.size, 0, none⟩ = some (.int .i64 x.op) ∧ W'.cell? ⟨T9, 0, none⟩ = some (.slice ga o.loc.length gc1) ∧ W'.cell? ⟨T9, 1, none⟩ = some (.slice gb o.st.length gc2))
                            (first | exact HSC2.out _ (Below.refl _ _) | exact HSC2.out _ (Below.refl _ _).drew | exact HSG2.out _ (gb_drew (gb_set (gb_set (gb_refl _ _) 0 _) 1 _)) | exact HSG2.out _ (gb_set (gb_set (gb_refl _ _) 0 _) 1 _) | exact HSG2.out _ (gb_set (gb_set (gb_drew (gb_refl _ _)) 0 _) 1 _))
                            ((go_at_call 99
                              refine (ends_calls x.op _).mono ?_
                              rintro e wz ⟨rfl, rfl⟩))
                          all_goals
                            obtain ⟨w9, hw9⟩ : ∃ w9, w9 = ((w5.setCell ⟨w2.heap.size, 0, none⟩ (.slice ga o.loc.length gc1)).setCell ⟨w2.heap.size, 1, none⟩ (.slice gb o.st.length gc2)).drew := ⟨_, rfl⟩
                            have HT9 := Hd (show Blk w9 w2.heap.size 60 #[.slice ga o.loc.length gc1, .slice gb o.st.length gc2] by rw [hw9]; exact (blk_set (blk_set HTe.out 0 _) 1 _).drew)
                            have hgb : w5.grownBy w9 (some w2.heap.size) := by rw [hw9]; exact gb_drew (gb_set (gb_set (gb_refl _ _) 0 _) 1 _)
                            have HB9 := Hd (show Below w2.heap.size w2 w9 by rw [hw9]; exact ((HBe.out.setCell (p := ⟨w2.heap.size, 0, none⟩) (Nat.le_refl _) _).setCell (p := ⟨w2.heap.size, 1, none⟩) (Nat.le_refl _) _).drew)
                            have HF9 := Hd (show FrAt w9 o ⟨ga, gc1, gb, gc2⟩ from ⟨gb_srow hgb HOe.out.1 (fun ad e => by have := HGN.out.1 ad e; omega), gb_srow hgb HOe.out.2 (fun ad e => by have := HGN.out.2 ad e; omega)⟩)
                            have HFAR9 := Hd (show FarF w2.heap.size w2.heap.size (.slice none 0 0) o ⟨ga, gc1, gb, gc2⟩ from FarF.new (n := wr.heap.size) (by omega) (by omega) (fun k hk => by cases hk) ⟨fun ad e => by have := HGN.out.1 ad e; omega, fun ad e => by have := HGN.out.2 ad e; omega⟩)
                            have hsz9 : w2.heap.size < w9.heap.size := HT9.out.lt
                            rw [← hw9]
                            clear hw9 hgb o0 o1 o2 o3 o4 HSC2 HSG2
                            go_wp2_with fail
                            go_roundw
                            case rel => exact ⟨k + 1, o, ⟨ga, gc1, gb, gc2⟩, !endsB x.op, by omega, by go_num, rfl, HB9.out, HT9.out, HF9.out, HFAR9.out, HKO5.out, hsz9, HRn⟩
                            case measure => simp [RowKit.intOf]; omega
                        | true =>
                          rw [hju] at HJ
                          have HJU := Hd hju
                          obtain ⟨ra0, ra1, _, _⟩ := jumps_ranged HXI.out hju
                          have HME := Hd (meets_calls l L K MB b m p M x.a o ⟨ga, gc1, gb, gc2⟩ w5 HWW5.out HW5.out (by omega) HO5.out HKO5.out HMK.out)
                          unfold frV at HME
                          clear hju
                          cases hmb : meetsB (wl l) M x.a o with
                          | false =>
                            rw [hmb] at HME
                            have HE := Hd (show R = false by rw [HRt.out, step_jump HCAP.out HAFO.out HJU.out hmb])
                            clear hmb
                            go_wp2_with fail
                            refine (HJ.out _).mono ?_
                            rintro e wz ⟨rfl, rfl⟩
                            go_wp2_with fail
                            refine HME.out.mono ?_
                            rintro e w7 ⟨rfl, hb7⟩
                            have HB7 := Hd (bl_trans HBE.out hb7)
                            clear hb7
                            go_wp2_with fail
                            go_ret
                            exact ⟨by rw [HE.out]; rfl, HB7.out⟩
                          | true =>
                            rw [hmb] at HME
                            have HRn := Hd (show R = wkF (wl l) (cFn (wl l)) (afterF (wl l) c gv) m.hs M (m.code.drop (k + 1)) (k + 1) o (!endsB x.op) by rw [HRt.out, step_next HCAP.out HAFO.out (Or.inr hmb)])
                            clear hmb
                            go_wp2_with fail
                            refine (HJ.out _).mono ?_
                            rintro e wz ⟨rfl, rfl⟩
                            go_wp2_with fail
                            refine HME.out.mono ?_
                            rintro e w7 ⟨rfl, hb7⟩
                            have HIe := Hd (HI5.out.below hb7)
                            have HKe := Hd ((show Blk w5 T9 60 #[.slice ga o.loc.length gc1, .slice gb o.st.length gc2] from HK5.out).below hb7)
                            have HTe := Hd (HT5.out.below hb7)
                            have HBe := Hd (HB5.out.trans (hb7.mono HB5.out.size))
                            have HOe := Hd (HO5.out.below hb7)
                            clear hb7 y0 y1 y2 z0 z1 z2
                            have HSC2 := Hd (fun W (hw : Below w7.heap.size w7 W) => (show W.cell? ⟨wr.heap.size, 0, none⟩ = some (.int .i64 x.op) ∧ W.cell? ⟨T9, 0, none⟩ = some (.slice ga o.loc.length gc1) ∧ W.cell? ⟨T9, 1, none⟩ = some (.slice gb o.st.length gc2) from ⟨(HIe.out.below hw).cell 0, (HKe.out.below hw).cell 0, (HKe.out.below hw).cell 1⟩))
                            have HSG2 := Hd (fun W (hg : w7.grownBy W (some w2.heap.size)) => (show W.cell? ⟨wr.heap.size, 0, none⟩ = some (.int .i64 x.op) ∧ W.cell? ⟨T9, 0, none⟩ = some (.slice ga o.loc.length gc1) ∧ W.cell? ⟨T9, 1, none⟩ = some (.slice gb o.st.length gc2) from ⟨(gb_blk hg HIe.out (by omega)).cell 0, (gb_blk hg HKe.out (by omega)).cell 0, (gb_blk hg HKe.out (by omega)).cell 1⟩))
                            have o0 := HTe.out.cell 0
                            have o1 := HTe.out.cell 1
                            have o2 := HTe.out.frozen 0
                            have o3 := HTe.out.frozen 1
                            have o4 := HTe.out.lt
                            go_upto_region 25 with fail
                            go_region_held3 (fun W' => W'.cell? ⟨wr.heap.size, 0, none⟩ = some (.int .i64 x.op) ∧ W'.cell? ⟨T9, 0, none⟩ = some (.slice ga o.loc.length gc1) ∧ W'.cell? ⟨T9, 1, none⟩ = some (.slice gb o.st.length gc2))
                              (first | exact HSC2.out _ (Below.refl _ _) | exact HSC2.out _ (Below.refl _ _).drew | exact HSG2.out _ (gb_drew (gb_set (gb_set (gb_refl _ _) 0 _) 1 _)) | exact HSG2.out _ (gb_set (gb_set (gb_refl _ _) 0 _) 1 _) | exact HSG2.out _ (gb_set (gb_set (gb_drew (gb_refl _ _)) 0 _) 1 _))
                              ((go_at_call 99
                                refine (ends_calls x.op _).mono ?_
                                rintro e wz ⟨rfl, rfl⟩))
                            all_goals
                              obtain ⟨w9, hw9⟩ : ∃ w9, w9 = ((w7.setCell ⟨w2.heap.size, 0, none⟩ (.slice ga o.loc.length gc1)).setCell ⟨w2.heap.size, 1, none⟩ (.slice gb o.st.length gc2)).drew := ⟨_, rfl⟩
                              have HT9 := Hd (show Blk w9 w2.heap.size 60 #[.slice ga o.loc.length gc1, .slice gb o.st.length gc2] by rw [hw9]; exact (blk_set (blk_set HTe.out 0 _) 1 _).drew)
                              have hgb : w7.grownBy w9 (some w2.heap.size) := by rw [hw9]; exact gb_drew (gb_set (gb_set (gb_refl _ _) 0 _) 1 _)
                              have HB9 := Hd (show Below w2.heap.size w2 w9 by rw [hw9]; exact ((HBe.out.setCell (p := ⟨w2.heap.size, 0, none⟩) (Nat.le_refl _) _).setCell (p := ⟨w2.heap.size, 1, none⟩) (Nat.le_refl _) _).drew)
                              have HF9 := Hd (show FrAt w9 o ⟨ga, gc1, gb, gc2⟩ from ⟨gb_srow hgb HOe.out.1 (fun ad e => by have := HGN.out.1 ad e; omega), gb_srow hgb HOe.out.2 (fun ad e => by have := HGN.out.2 ad e; omega)⟩)
                              have HFAR9 := Hd (show FarF w2.heap.size w2.heap.size (.slice none 0 0) o ⟨ga, gc1, gb, gc2⟩ from FarF.new (n := wr.heap.size) (by omega) (by omega) (fun k hk => by cases hk) ⟨fun ad e => by have := HGN.out.1 ad e; omega, fun ad e => by have := HGN.out.2 ad e; omega⟩)
                              have hsz9 : w2.heap.size < w9.heap.size := HT9.out.lt
                              rw [← hw9]
                              clear hw9 hgb o0 o1 o2 o3 o4 HSC2 HSG2
                              go_wp2_with fail
                              go_roundw
                              case rel => exact ⟨k + 1, o, ⟨ga, gc1, gb, gc2⟩, !endsB x.op, by omega, by go_num, rfl, HB9.out, HT9.out, HF9.out, HFAR9.out, HKO5.out, hsz9, HRn⟩
                              case measure => simp [RowKit.intOf]; omega
          · obtain rfl : k = m.code.length := by omega
            have HE := Hd (show R = true by rw [HRk.out, List.drop_length]; rfl)
            go_wp2_with fail
            go_ret
            exact ⟨by rw [HE.out]; rfl, HBw.out⟩
end Go.Proofs.YtfddgdbebhmcnaaGreatDoor
