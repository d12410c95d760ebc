/-
  FrameLocals: the walk of the law.
-/
import Derived.Test.YtanjggdmgeedlaaGreatDoorStp14
import Derived.Test.YtanjggdmgeedlaaGreatDoorPStp2
import Derived.Test.YtanjggdmgeedlaaGreatDoorFrmOpen
import Derived.Test.YtanjggdmgeedlaaGreatDoorFrame
namespace Go.Proofs.YtanjggdmgeedlaaGreatDoor
set_option linter.unusedVariables false
set_option linter.unusedSimpArgs false
open Go.RowKit Go.Shelf Go.Lib Go.Sort

set_option maxRecDepth 100000 in
set_option maxHeartbeats 8000000 in
theorem frameLocals_go (l : List ClassR) (ps : List CAddr) (a0 : Option Addr) (c0 : Nat) (gv : Nm) (x : InsR) (f : FrR) (p : FAddr) (w : World) (hC : ClassesAt w a0 c0 l ps) (hF : FormsAt w) (hB : ClsOk l) (hf : FrAt w f p) (hfb : FrB f) (hty : x.ty.length ≤ 1048576) (hgl : gv.length ≤ 1048576) :
    Calls Tryz.prog 5 #[.slice a0 l.length c0, .string ⟨⟨gv⟩⟩, insV x, frV f p] w fun e w' => e = .returned (.bool true) ∧ Below w.heap.size w w' := by
  obtain ⟨w1, hw1⟩ : ∃ w1, w1 = (w.alloc (.cells (insArr x) 45)).alloc (.cells #[.slice p.la f.loc.length p.lc, .slice p.sa f.st.length p.sc] 48) := ⟨_, rfl⟩
  have hb1 : Below w.heap.size w w1 := by rw [hw1]; exact bl_alloc (bl_alloc (Below.refl _ _) _) _
  have HX := Lib.hid (show Blk w1 w.heap.size 45 (insArr x) by rw [hw1]; exact (blk_new _ _ _ _ rfl).alloc _)
  have HF := Lib.hid (show Blk w1 (w.heap.size + 1) 48 #[.slice p.la f.loc.length p.lc, .slice p.sa f.st.length p.sc] by rw [hw1]; exact blk_new _ _ _ _ (by simp))
  have HB1 := Lib.hid hb1
  have HFA := Lib.hid hf.1
  have HST := Lib.hid (fun W (hw : Below w.heap.size w W) => show Calls Tryz.prog 15 #[.slice a0 l.length c0, .string ⟨#[79, 98, 106, 101, 99, 116]⟩, .string ⟨⟨gv⟩⟩, insV x, frV f p] W (StepRes l objN gv x f W) from step_calls l ps a0 c0 objN gv x f p W (hC.below hw) (hF.below hw) hB (hf.below hw) hfb hty hgl (by decide) (by simp [look, wl, objC]))
  obtain ⟨op, ia, ib, ty, cl, nm⟩ := x
  unfold insArr at hw1 HX
  unfold insV at *
  unfold frV at *
  clear hC hF hB hf hfb hty hgl hb1
  go_enter Tryz.func5, Tryz.ntmps5
  go_upto_region 1 with fail
  rw [← hw1]
  clear hw1
  go_wp2_with fail
  refine (named_true _).mono ?_
  rintro e w2 ⟨rfl, hb2⟩
  have HB2 := Lib.hid (bl_trans HB1.out hb2)
  have HX2 := Lib.hid (HX.out.below hb2)
  have HF2 := Lib.hid (HF.out.below hb2)
  have e0 := HX2.out.cell 0
  have e1 := HX2.out.cell 1
  have e2 := HX2.out.cell 2
  have e3 := HX2.out.cell 3
  have e4 := HX2.out.cell 4
  have e5 := HX2.out.cell 5
  have e6 := HX2.out.lt
  have f0 := HF2.out.cell 0
  have f1 := HF2.out.cell 1
  have f2 := HF2.out.lt
  clear hb2 HX HF
  go_wp2_with fail
  refine (HST.out _ HB2.out).mono ?_
  rintro e w3 ⟨hb3, ⟨z, hz, rfl⟩ | ⟨_, hck, hie, _, g, q, haf, rfl, hga⟩⟩
  · have HB3 := Lib.hid (bl_trans HB2.out hb3)
    clear hb3 e0 e1 e2 e3 e4 e5 e6 f0 f1 f2 HST
    go_wp2_with fail
    go_ret
    exact ⟨rfl, bl_alloc HB3.out _⟩
  · have hfl8 : f.loc.length ≤ 8 := (chk_zero.1 hck).1.1
    obtain ⟨hlen, hst8, hsame⟩ := after_keep haf (chk_zero.1 hck).1.2
    dsimp only at hsame
    have HNN := Lib.hid (show op = 5 → 0 ≤ ia from fun h => by
      have hr := (ins_parts hie).1
      subst h
      have : 0 ≤ ia ∧ ia < 8 := by simpa [rangedB] using hr
      exact this.1)
    obtain ⟨w4, hw4⟩ : ∃ w4, w4 = w3.alloc (.cells #[.slice q.la f.loc.length q.lc, .slice q.sa g.st.length q.sc] 48) := ⟨_, rfl⟩
    have hal : Below w3.heap.size w3 w4 := by rw [hw4]; exact bl_alloc (Below.refl _ _) _
    have HB4 := Lib.hid (bl_trans HB2.out (bl_trans hb3 hal))
    have HX4 := Lib.hid (HX2.out.below (bl_trans hb3 hal))
    have HF4 := Lib.hid (HF2.out.below (bl_trans hb3 hal))
    have HG4 := Lib.hid (show Blk w4 w3.heap.size 48 #[.slice q.la f.loc.length q.lc, .slice q.sa g.st.length q.sc] by rw [hw4]; exact blk_new _ _ _ _ rfl)
    have HGA := Lib.hid (hga.1.below hal)
    have HSM := Lib.hid hsame
    have HLN := Lib.hid hlen
    have hs8 : (g.st.length : Int) ≤ 8 := by omega
    have hs9 : decide ((g.st.length : Int) ≤ 8) = true := decide_eq_true hs8
    unfold frV
    rw [hlen]
    clear hb3 hal hck hie haf hga hlen hst8 hsame e0 e1 e2 e3 e4 e5 e6 f0 f1 f2 HST
    have f0 := HF4.out.cell 0
    have f2 := HF4.out.lt
    have g0 := HG4.out.cell 0
    have g1 := HG4.out.cell 1
    have g2 := HG4.out.lt
    go_upto_region 7 with fail
    rw [← hw4]
    clear hw4
    go_wp2_with fail
    go_loopw [12] (fun i wr => ∃ j : Nat, j ≤ f.loc.length ∧ i = .int .i64 j ∧ Below w4.heap.size w4 wr) (fun i _ => f.loc.length - (RowKit.intOf i).toNat)
    case atStart => exact ⟨0, by omega, rfl, Below.refl _ _⟩
    case round =>
      obtain ⟨j, hj, rfl, hwr⟩ := hrel
      have HW := Lib.hid hwr
      clear f0 f2 g0 g1 g2
      have f0 := (HF4.out.below hwr).cell 0
      have f2 := (HF4.out.below hwr).lt
      have g0 := (HG4.out.below hwr).cell 0
      have g1 := (HG4.out.below hwr).cell 1
      have g2 := (HG4.out.below hwr).lt
      by_cases hlj : j < f.loc.length
      · obtain ⟨t, ht⟩ : ∃ t, f.loc[j]? = some t := ⟨_, List.getElem?_eq_getElem hlj⟩
        have hlg : j < g.loc.length := by rw [HLN.out]; exact hlj
        obtain ⟨u, hu⟩ : ∃ u, g.loc[j]? = some u := ⟨_, List.getElem?_eq_getElem hlg⟩
        have e0 := (HX4.out.below hwr).cell 0
        have e1 := (HX4.out.below hwr).cell 1
        have e6 := (HX4.out.below hwr).lt
        obtain ⟨_, h1 | ⟨b1, o1, ha1, hl1, hc1⟩⟩ := (HFA.out.below (bl_trans HB4.out hwr))
        · rw [h1] at hlj; simp at hlj
        obtain ⟨_, h2 | ⟨b2, o2, ha2, hl2, hc2⟩⟩ := (HGA.out.below hwr)
        · rw [h2] at hlg; simp at hlg
        have x1 : wr.cell? ⟨b1, o1 + j, none⟩ = some (.string ⟨⟨t⟩⟩) := hc1 j t ht
        have x2 : wr.cell? ⟨b2, o2 + j, none⟩ = some (.string ⟨⟨u⟩⟩) := hc2 j u hu
        rw [ha1] at f0
        rw [ha2] at g0
        have i0 : (0 : Int) ≤ (j : Int) := by omega
        have i1 : (j : Int) < (f.loc.length : Int) := by omega
        have HTU := Lib.hid (show (op ≠ 5 ∨ j ≠ ia.toNat) → u = t from fun h => by
          have := HSM.out j h
          rw [ht, hu] at this
          simpa using this)
        clear hwr hc1 hc2 ht hu ha1 ha2
        by_cases h5 : op = 5
        · subst h5
          by_cases ha : ia = (j : Int)
          · subst ha
            go_upto_region 12 with fail
            go_quiet (fail)
            go_wp2_with fail
            go_roundw
            case rel => exact ⟨j + 1, by omega, by go_num, HW.out.trans ⟨rfl, rfl, rfl, Nat.le_refl _, fun _ _ => rfl⟩⟩
            case measure => simp [RowKit.intOf]; omega
          · obtain rfl := HTU.out (Or.inr (by have := HNN.out rfl; omega))
            have qa : ((j : Int) == ia) = false := by rw [beq_eq_false_iff_ne]; exact fun e => ha e.symm
            have qb : ((j : Int) != ia) = true := by rw [bne_iff_ne]; exact fun e => ha e.symm
            go_upto_region 12 with fail
            go_quiet (fail)
            go_wp2_with fail
            go_roundw
            case rel => exact ⟨j + 1, by omega, by go_num, HW.out.trans ⟨rfl, rfl, rfl, Nat.le_refl _, fun _ _ => rfl⟩⟩
            case measure => simp [RowKit.intOf]; omega
        · obtain rfl := HTU.out (Or.inl h5)
          have q5 : (op == 5) = false := by rw [beq_eq_false_iff_ne]; exact h5
          go_upto_region 12 with fail
          go_quiet (fail)
          go_wp2_with fail
          go_roundw
          case rel => exact ⟨j + 1, by omega, by go_num, HW.out.trans ⟨rfl, rfl, rfl, Nat.le_refl _, fun _ _ => rfl⟩⟩
          case measure => simp [RowKit.intOf]; omega
      · obtain rfl : j = f.loc.length := by omega
        have HBE := Lib.hid (bl_trans HB4.out hwr)
        clear hwr
        go_wp2_with fail
        go_ret
        exact ⟨rfl, HBE.out⟩

set_option maxRecDepth 100000 in
theorem frameLocals.walk {H : Type} {enc : TypeId × Value → H} {W : World} {base : Nat}
    {v0 : Value} {d0 : DataW H} {p0 : List MemPlace} (hv0 : Value.okWide Tryz.prog W .any base 22 v0) (h0 : DataW.Trod enc Tryz.prog W 0 (fun _ => true) true 22 v0 d0 p0)
    (s1 : ByteArray) (hs1 : s1.size ≤ maxLen) (hr1 : s1.data.toList.length ≤ reachBytes)
    {v2 : Value} {d2 : DataW H} {p2 : List MemPlace} (hv2 : Value.okWide Tryz.prog W .any base 45 v2) (h2 : DataW.Trod enc Tryz.prog W 0 (fun _ => true) true 45 v2 d2 p2)
    {v3 : Value} {d3 : DataW H} {p3 : List MemPlace} (hv3 : Value.okWide Tryz.prog W .any base 48 v3) (h3 : DataW.Trod enc Tryz.prog W 0 (fun _ => true) true 48 v3 d3 p3)
    (W' : World) (hW : W' = W) (hL : laidMetH Tryz.prog Rows.frameLocalsUptoRow.laid W) {S : Prop} (_ : S) (hbulk : Rows.uptoBulkAll [d0, DataW.lit (.string s1.data.toList), d2, d3] ≤ 1048576) :
    Calls Tryz.prog 5 #[v0, .string s1, v2, v3] W' fun e w' => e = .returned (.bool true) ∧ Below W'.heap.size W' w' := by
  subst hW
  obtain ⟨a0, len0, cap0, rfl⟩ := WideShapes.okWide_slice Tryz.underlying22 hv0
  obtain ⟨fuel0, hf0⟩ := h0
  obtain ⟨aa0, cc0, l0, ps0, hcs0, hC0, hll0, ht0⟩ := open_classes hf0
  simp only [Value.cells, List.cons.injEq, and_true] at hcs0
  rw [hcs0]
  obtain ⟨⟨x1⟩⟩ := s1
  obtain ⟨x, rfl, _, bx, _, _, xa, xb⟩ := open_insV hv2 h2
  obtain ⟨f3, q3, rfl, hfr3, hfb3⟩ := open_frameV hv3 h3
  simp only [Rows.uptoBulkAll, Rows.uptoBulk] at hbulk
  exact frameLocals_go l0 ps0 aa0 cc0 x1 x f3 q3 W' hC0 (forms_of_laid hL (by kernel_rfl)) (ht0 (by omega)) hfr3 (hfb3 (by omega)) (by omega) (by omega)
end Go.Proofs.YtanjggdmgeedlaaGreatDoor
