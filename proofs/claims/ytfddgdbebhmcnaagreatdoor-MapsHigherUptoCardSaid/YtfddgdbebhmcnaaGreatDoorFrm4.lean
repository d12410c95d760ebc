/-
  The walks of frame.Join, frame.Same, frame.Below.
-/
import Derived.Test.YtfddgdbebhmcnaaGreatDoorJa
namespace Go.Proofs.YtfddgdbebhmcnaaGreatDoor
set_option linter.unusedVariables false
set_option linter.unusedSimpArgs false
open Go.RowKit Go.Shelf Go.Lib
theorem fj_read {l : List ClassR} {a b : FrR} (h : readErr l ≠ 0) : fjErr l a b = readErr l := by unfold fjErr; rw [if_pos h]
theorem fj_a {l : List ClassR} {a b : FrR} (h0 : readErr l = 0) (h : chkErr (wl l) a ≠ 0) : fjErr l a b = chkErr (wl l) a := by unfold fjErr; rw [if_neg (by simp [h0]), if_pos h]
theorem fj_b {l : List ClassR} {a b : FrR} (h0 : readErr l = 0) (h1 : chkErr (wl l) a = 0) (h : chkErr (wl l) b ≠ 0) : fjErr l a b = chkErr (wl l) b := by unfold fjErr; rw [if_neg (by simp [h0]), if_neg (by simp [h1]), if_pos h]
theorem fj_sh {l : List ClassR} {a b : FrR} (h0 : readErr l = 0) (h1 : chkErr (wl l) a = 0) (h2 : chkErr (wl l) b = 0) (h : ¬ sameSh a b) : fjErr l a b = 8 := by unfold fjErr; rw [if_neg (by simp [h0]), if_neg (by simp [h1]), if_neg (by simp [h2]), if_neg h]
def zeroFr : FrR := ⟨[], []⟩
def FJRes (l : List ClassR) (a b : FrR) (w : World) (e : Ending) (w' : World) : Prop := Below w.heap.size w w' ∧
  ((fjErr l a b ≠ 0 ∧ e = .returned (.tuple #[frV zeroFr nilF, errV (fjErr l a b)])) ∨ (fjErr l a b = 0 ∧ ∃ p, e = .returned (.tuple #[frV (joinF (wl l) a b) p, .nilIface]) ∧ FrAt w' (joinF (wl l) a b) p))
theorem fblk_set {W : World} {g : Nat} {x0 x1 y0 y1 : Value} (h : Blk W g 60 #[x0, x1]) : Blk ((W.setCell ⟨g, 0, none⟩ y0).setCell ⟨g, 1, none⟩ y1) g 60 #[y0, y1] := blk_set (blk_set h 0 y0) 1 y1
theorem fgb_set (W : World) (g : Nat) (y0 y1 : Value) : W.grownBy ((W.setCell ⟨g, 0, none⟩ y0).setCell ⟨g, 1, none⟩ y1) (some g) := gb_set (gb_set (gb_refl W g) 0 y0) 1 y1
theorem srow_far {W w7 : World} {a a0 a1 : Option Addr} {c g n0 c0 n1 c1 : Nat} {T : TypeId} {X : List Nm} (hr : SRow W a c X) (hb : Blk W g T #[.slice a0 n0 c0, .slice a1 n1 c1]) (hg : W.grownBy w7 (some g)) : SRow w7 a c X := by
  obtain ⟨h1, h2 | ⟨b, off, rfl, hlt, hc⟩⟩ := hr
  · exact ⟨h1, Or.inl h2⟩
  cases X with
  | nil => exact ⟨h1, Or.inl rfl⟩
  | cons x r =>
    have hne : b ≠ g := by
      intro e
      subst e
      have h3 := hc 0 x rfl
      rw [hb.cell] at h3
      match off, h3 with
      | 0, h3 => simp [strV] at h3
      | 1, h3 => simp [strV] at h3
      | n + 2, h3 => simp at h3
    exact gb_srow hg ⟨h1, Or.inr ⟨b, off, rfl, hlt, hc⟩⟩ (fun ad e => by have := Option.some.inj e; rw [← this]; exact hne)
theorem idx_a (w : World) (x0 x1 x2 x3 : Value) : (Instr.index 179 (.agg #[x0, x1, x2, x3]) (.int .i64 0)).run Tryz.prog w = .ok (.agg #[x0, x1]) w := by kernel_rfl
theorem idx_b (w : World) (x0 x1 x2 x3 : Value) : (Instr.index 179 (.agg #[x0, x1, x2, x3]) (.int .i64 1)).run Tryz.prog w = .ok (.agg #[x2, x3]) w := by kernel_rfl
set_option maxRecDepth 100000 in
set_option maxHeartbeats 8000000 in
theorem fjoin_calls (l : List ClassR) (ps : List CAddr) (a : Option Addr) (cap : Nat) (fa fb : FrR) (pa pb : FAddr) (w : World) (hC : ClassesAt w a cap l ps) (hF : FormsAt w) (hB : ClsOk l) (hfa : FrAt w fa pa) (hfb : FrAt w fb pb) (hba : FrB fa) (hbb : FrB fb) :
    Calls Tryz.prog 50 #[.slice a l.length cap, frV fa pa, frV fb pb] w (FJRes l fa fb w) := by
  have HBX := Hd (show ∀ o1 o2 o3, Below w.heap.size w (((w.alloc o1).alloc o2).alloc o3) from fun o1 o2 o3 => bl_alloc (bl_alloc (bl_alloc (Below.refl w.heap.size w) o1) o2) o3)
  have HR := Hd (fun W (hW : Below w.heap.size w W) => read_w l ps a cap W (hC.below hW) (hF.below hW) hB)
  have HCK := Hd (fun (f : FrR) (p : FAddr) (h : (f = fa ∧ p = pa) ∨ (f = fb ∧ p = pb)) W m (hW : Below w.heap.size w W) (hw : WOk W m l (wcp l ps)) => (show Calls Tryz.prog 45 #[.map (some m), frV f p] W (ChkRes (chkErr (wl l) f) W) from by
    rcases h with ⟨rfl, rfl⟩ | ⟨rfl, rfl⟩
    · exact fcheck_calls l _ m _ _ W hw (hfa.below hW) hba
    · exact fcheck_calls l _ m _ _ W hw (hfb.below hW) hbb))
  have HBO := Hd (fun W m (hW : Below w.heap.size w W) (hw : WOk W m l (wcp l ps)) h1 h2 => both_calls l _ m fa fb pa pb W hw (hfa.below hW) (hfb.below hW) h1 h2)
  clear hC hF hB hfa hfb hba hbb
  have HZ := Hd (fun h => @fj_read l fa fb h)
  have HZA := Hd (fun h0 h => @fj_a l fa fb h0 h)
  have HZB := Hd (fun h0 h1 h => @fj_b l fa fb h0 h1 h)
  have HZS := Hd (fun h0 h1 h2 h => @fj_sh l fa fb h0 h1 h2 h)
  have HZ0 := Hd (fun h => (@fj_zero l fa fb).2 h)
  unfold frV at *
  have qi := idx_a
  have qj := idx_b
  go_enter Tryz.func50, Tryz.ntmps50
  go_wp2_with fail
  have HD0 := Hd (((blk_new w w.heap.size 60 #[.slice pa.la fa.loc.length pa.lc, .slice pa.sa fa.st.length pa.sc] rfl).below ((Below.refl _ _).alloc (Nat.le_refl _) (.cells #[.slice pb.la fb.loc.length pb.lc, .slice pb.sa fb.st.length pb.sc] 60))).below ((Below.refl _ _).alloc (Nat.le_refl _) (.cells #[.slice none 0 0, .slice none 0 0] 60)))
  have HD1 := Hd ((blk_new (w.alloc (.cells #[.slice pa.la fa.loc.length pa.lc, .slice pa.sa fa.st.length pa.sc] 60)) (w.heap.size + 1) 60 #[.slice pb.la fb.loc.length pb.lc, .slice pb.sa fb.st.length pb.sc] (by simp)).below ((Below.refl _ _).alloc (Nat.le_refl _) (.cells #[.slice none 0 0, .slice none 0 0] 60)))
  have HD2 := Hd (blk_new ((w.alloc (.cells #[.slice pa.la fa.loc.length pa.lc, .slice pa.sa fa.st.length pa.sc] 60)).alloc (.cells #[.slice pb.la fb.loc.length pb.lc, .slice pb.sa fb.st.length pb.sc] 60)) (w.heap.size + 1 + 1) 60 #[.slice none 0 0, .slice none 0 0] (by simp))
  have HBW := Hd (HBX.out (.cells #[.slice pa.la fa.loc.length pa.lc, .slice pa.sa fa.st.length pa.sc] 60) (.cells #[.slice pb.la fb.loc.length pb.lc, .slice pb.sa fb.st.length pb.sc] 60) (.cells #[.slice none 0 0, .slice none 0 0] 60))
  refine (HR.out _ (by exact HBW.out)).mono ?_
  rintro e w2 ⟨hb2, ⟨hne, rfl⟩ | ⟨h0, m, rfl, hw⟩⟩
  · have hc2 := HD2.out.below hb2
    have y0 := hc2.cell 0
    have y1 := hc2.cell 1
    have y2 := hc2.frozen 0
    have y3 := hc2.frozen 1
    have y4 := hc2.lt
    have HC2 := Hd hc2
    have HB2 := Hd (bl_trans HBW.out hb2)
    have HEQ := Hd (HZ.out hne)
    have HNE := Hd hne
    generalize readErr l = z at *
    clear hb2 hc2 hne
    go_wp2_with fail
    have hb7 := fblk_set (y0 := .slice none 0 0) (y1 := .slice none 0 0) HC2.out
    have hg7 := fgb_set w2 (w.heap.size + 1 + 1) (.slice none 0 0) (.slice none 0 0)
    generalize (w2.setCell ⟨w.heap.size + 1 + 1, 0, none⟩ (.slice none 0 0)).setCell ⟨w.heap.size + 1 + 1, 1, none⟩ (.slice none 0 0) = w7 at *
    have r0 : w7.cell? ⟨w.heap.size + 1 + 1, 0, none⟩ = some (.slice none 0 0) := hb7.cell 0
    have r1 : w7.cell? ⟨w.heap.size + 1 + 1, 1, none⟩ = some (.slice none 0 0) := hb7.cell 1
    exact bodyPost_ret (v := .tuple #[frV zeroFr nilF, errV z]) (by simp [results, Tryz.results50, go_sem, r0, r1, frV, zeroFr, nilF]) rfl ⟨below_grown HB2.out hg7 (by omega) HB2.out.size, Or.inl ⟨by rw [HEQ.out]; exact HNE.out, by rw [HEQ.out]⟩⟩
  · have HB2 := Hd (bl_trans HBW.out hb2)
    have HE0 := Hd (HD0.out.below hb2)
    have HE1 := Hd (HD1.out.below hb2)
    have HE2 := Hd (HD2.out.below hb2)
    have HW := Hd hw
    have H0 := Hd h0
    have e0 := HE0.out.cell 0
    have e1 := HE0.out.cell 1
    have e2 := HE0.out.lt
    have e3 := HE1.out.cell 0
    have e4 := HE1.out.cell 1
    have e5 := HE1.out.lt
    clear hb2 h0 hw
    go_wp2_with fail
    go_loopw [27] (fun i wr => Below w2.heap.size w2 wr ∧ (i = .int .i64 0 ∨ (i = .int .i64 1 ∧ Hid (chkErr (wl l) fa = 0)) ∨ (i = .int .i64 2 ∧ Hid (chkErr (wl l) fa = 0) ∧ Hid (chkErr (wl l) fb = 0)))) (fun i _ => 2 - (RowKit.intOf i).toNat)
    case atStart => exact ⟨Below.refl _ _, Or.inl rfl⟩
    case round =>
      obtain ⟨hbr, rfl | ⟨rfl, HZ1⟩ | ⟨rfl, HZ1, HZ2⟩⟩ := hrel
      · -- the first frame
        have HBR := Hd (bl_trans HB2.out hbr)
        have HBR2 := Hd hbr
        have hbr1 := bl_alloc hbr (.cells #[.slice pa.la fa.loc.length pa.lc, .slice pa.sa fa.st.length pa.sc] 60)
        have HKC := Hd (HCK.out fa pa (Or.inl ⟨rfl, rfl⟩) _ m (bl_trans HB2.out hbr1) (HW.out.below hbr1))
        have HBR1 := Hd hbr1
        clear hbr hbr1
        unfold frV ChkRes at HKC
        go_wp2_with fail
        refine HKC.out.mono ?_
        rintro e w4 ⟨rfl, hb4⟩
        have HB24 := Hd (bl_trans HBR1.out hb4)
        have HB04 := Hd (bl_trans HB2.out HB24.out)
        have HE2' := Hd (HE2.out.below HB24.out)
        clear hb4
        by_cases hz0 : chkErr (wl l) fa = 0
        · have HZ1 := Hd hz0
          rw [hz0, errOf_zero]
          clear hz0
          go_wp2_with fail
          go_roundw
          case rel => exact ⟨HB24.out, Or.inr (Or.inl ⟨by go_num, HZ1⟩)⟩
          case measure => simp [RowKit.intOf]
        · rw [errOf_ne hz0]
          have HNZ := Hd hz0
          have HEQ := Hd (HZA.out H0.out hz0)
          have y0 := HE2'.out.cell 0
          have y1 := HE2'.out.cell 1
          have y2 := HE2'.out.frozen 0
          have y3 := HE2'.out.frozen 1
          have y4 := HE2'.out.lt
          generalize chkErr (wl l) fa = z at *
          clear hz0
          go_wp2_with fail
          have hb7 := fblk_set (y0 := .slice none 0 0) (y1 := .slice none 0 0) HE2'.out
          have hg7 := fgb_set w4 (w.heap.size + 1 + 1) (.slice none 0 0) (.slice none 0 0)
          generalize (w4.setCell ⟨w.heap.size + 1 + 1, 0, none⟩ (.slice none 0 0)).setCell ⟨w.heap.size + 1 + 1, 1, none⟩ (.slice none 0 0) = w7 at *
          have r0 : w7.cell? ⟨w.heap.size + 1 + 1, 0, none⟩ = some (.slice none 0 0) := hb7.cell 0
          have r1 : w7.cell? ⟨w.heap.size + 1 + 1, 1, none⟩ = some (.slice none 0 0) := hb7.cell 1
          exact bodyPost_ret (v := .tuple #[frV zeroFr nilF, errV z]) (by simp [results, Tryz.results50, go_sem, r0, r1, frV, zeroFr, nilF]) rfl ⟨below_grown HB04.out hg7 (by omega) HB04.out.size, Or.inl ⟨by rw [HEQ.out]; exact HNZ.out, by rw [HEQ.out]⟩⟩
      · -- the second frame
        have HZX := HZ1
        clear HZ1
        have HBR := Hd (bl_trans HB2.out hbr)
        have HBR2 := Hd hbr
        have hbr1 := bl_alloc hbr (.cells #[.slice pb.la fb.loc.length pb.lc, .slice pb.sa fb.st.length pb.sc] 60)
        have HKC := Hd (HCK.out fb pb (Or.inr ⟨rfl, rfl⟩) _ m (bl_trans HB2.out hbr1) (HW.out.below hbr1))
        have HBR1 := Hd hbr1
        clear hbr hbr1
        unfold frV ChkRes at HKC
        go_wp2_with fail
        refine HKC.out.mono ?_
        rintro e w4 ⟨rfl, hb4⟩
        have HB24 := Hd (bl_trans HBR1.out hb4)
        have HB04 := Hd (bl_trans HB2.out HB24.out)
        have HE2' := Hd (HE2.out.below HB24.out)
        clear hb4
        by_cases hz0 : chkErr (wl l) fb = 0
        · have HZ1 := Hd hz0
          rw [hz0, errOf_zero]
          clear hz0
          go_wp2_with fail
          go_roundw
          case rel => exact ⟨HB24.out, Or.inr (Or.inr ⟨by go_num, HZX, HZ1⟩)⟩
          case measure => simp [RowKit.intOf]
        · rw [errOf_ne hz0]
          have HNZ := Hd hz0
          have HEQ := Hd (HZB.out H0.out HZX.out hz0)
          have y0 := HE2'.out.cell 0
          have y1 := HE2'.out.cell 1
          have y2 := HE2'.out.frozen 0
          have y3 := HE2'.out.frozen 1
          have y4 := HE2'.out.lt
          generalize chkErr (wl l) fb = z at *
          clear hz0
          go_wp2_with fail
          have hb7 := fblk_set (y0 := .slice none 0 0) (y1 := .slice none 0 0) HE2'.out
          have hg7 := fgb_set w4 (w.heap.size + 1 + 1) (.slice none 0 0) (.slice none 0 0)
          generalize (w4.setCell ⟨w.heap.size + 1 + 1, 0, none⟩ (.slice none 0 0)).setCell ⟨w.heap.size + 1 + 1, 1, none⟩ (.slice none 0 0) = w7 at *
          have r0 : w7.cell? ⟨w.heap.size + 1 + 1, 0, none⟩ = some (.slice none 0 0) := hb7.cell 0
          have r1 : w7.cell? ⟨w.heap.size + 1 + 1, 1, none⟩ = some (.slice none 0 0) := hb7.cell 1
          exact bodyPost_ret (v := .tuple #[frV zeroFr nilF, errV z]) (by simp [results, Tryz.results50, go_sem, r0, r1, frV, zeroFr, nilF]) rfl ⟨below_grown HB04.out hg7 (by omega) HB04.out.size, Or.inl ⟨by rw [HEQ.out]; exact HNZ.out, by rw [HEQ.out]⟩⟩
      · have HBR := Hd (bl_trans HB2.out hbr)
        have HBO2 := Hd (HBO.out _ m HBR.out (HW.out.below hbr) HZ1.out HZ2.out)
        have HE2' := Hd (HE2.out.below hbr)
        have g0 := (HE0.out.below hbr).cell 0
        have g1 := (HE0.out.below hbr).cell 1
        have g2 := (HE0.out.below hbr).lt
        have g3 := (HE1.out.below hbr).cell 0
        have g4 := (HE1.out.below hbr).cell 1
        have g5 := (HE1.out.below hbr).lt
        clear hbr
        go_wp2_with fail
        refine HBO2.out.mono ?_
        rintro e w5 ⟨hb5, ⟨hns, rfl⟩ | ⟨hs, p, rfl, hf⟩⟩
        · have HEQ := Hd (HZS.out H0.out HZ1.out HZ2.out hns)
          have HB5 := Hd (bl_trans HBR.out hb5)
          have HE5 := Hd (HE2'.out.below hb5)
          have y0 := (HE2'.out.below hb5).cell 0
          have y1 := (HE2'.out.below hb5).cell 1
          have y2 := (HE2'.out.below hb5).frozen 0
          have y3 := (HE2'.out.below hb5).frozen 1
          have y4 := (HE2'.out.below hb5).lt
          clear hb5 hns g0 g1 g2 g3 g4 g5
          simp only [frV, nilF, List.length_nil]
          go_wp2_with fail
          have hb7 := (fblk_set (y0 := .slice none 0 0) (y1 := .slice none 0 0) HE5.out).below ((Below.refl _ _).alloc (Nat.le_refl _) (.cells #[.slice none 0 0, .slice none 0 0] 60))
          have hg7 := gb_alloc (fgb_set w5 (w.heap.size + 1 + 1) (.slice none 0 0) (.slice none 0 0)) (.cells #[.slice none 0 0, .slice none 0 0] 60)
          generalize ((w5.setCell ⟨w.heap.size + 1 + 1, 0, none⟩ (.slice none 0 0)).setCell ⟨w.heap.size + 1 + 1, 1, none⟩ (.slice none 0 0)).alloc (.cells #[.slice none 0 0, .slice none 0 0] 60) = w7 at *
          have r0 : w7.cell? ⟨w.heap.size + 1 + 1, 0, none⟩ = some (.slice none 0 0) := hb7.cell 0
          have r1 : w7.cell? ⟨w.heap.size + 1 + 1, 1, none⟩ = some (.slice none 0 0) := hb7.cell 1
          exact bodyPost_ret (v := .tuple #[frV zeroFr nilF, errV 8]) (by simp [results, Tryz.results50, go_sem, r0, r1, frV, zeroFr, nilF]) rfl ⟨below_grown HB5.out hg7 (by omega) HB5.out.size, Or.inl ⟨by rw [HEQ.out]; decide, by rw [HEQ.out]⟩⟩
        · have HEQ := Hd (HZ0.out ⟨H0.out, HZ1.out, HZ2.out, hs⟩)
          have HB5 := Hd (bl_trans HBR.out hb5)
          have HE5 := Hd (HE2'.out.below hb5)
          have y0 := (HE2'.out.below hb5).cell 0
          have y1 := (HE2'.out.below hb5).cell 1
          have y2 := (HE2'.out.below hb5).frozen 0
          have y3 := (HE2'.out.below hb5).frozen 1
          have y4 := (HE2'.out.below hb5).lt
          have HFR := Hd hf
          clear hb5 hs hf g0 g1 g2 g3 g4 g5
          generalize hjf : joinF (wl l) fa fb = jf at *
          have HJF := Hd hjf
          clear hjf
          simp only [frV]
          go_wp2_with fail
          have hb7 := (fblk_set (y0 := .slice p.la jf.loc.length p.lc) (y1 := .slice p.sa jf.st.length p.sc) HE5.out).below ((Below.refl _ _).alloc (Nat.le_refl _) (.cells #[.slice p.la jf.loc.length p.lc, .slice p.sa jf.st.length p.sc] 60))
          have hg7 := gb_alloc (fgb_set w5 (w.heap.size + 1 + 1) (.slice p.la jf.loc.length p.lc) (.slice p.sa jf.st.length p.sc)) (.cells #[.slice p.la jf.loc.length p.lc, .slice p.sa jf.st.length p.sc] 60)
          generalize ((w5.setCell ⟨w.heap.size + 1 + 1, 0, none⟩ (.slice p.la jf.loc.length p.lc)).setCell ⟨w.heap.size + 1 + 1, 1, none⟩ (.slice p.sa jf.st.length p.sc)).alloc (.cells #[.slice p.la jf.loc.length p.lc, .slice p.sa jf.st.length p.sc] 60) = w7 at *
          have r0 : w7.cell? ⟨w.heap.size + 1 + 1, 0, none⟩ = some (.slice p.la jf.loc.length p.lc) := hb7.cell 0
          have r1 : w7.cell? ⟨w.heap.size + 1 + 1, 1, none⟩ = some (.slice p.sa jf.st.length p.sc) := hb7.cell 1
          exact bodyPost_ret (v := .tuple #[frV jf p, .nilIface]) (by simp [results, Tryz.results50, go_sem, r0, r1, frV, zeroFr, nilF]) rfl ⟨below_grown HB5.out hg7 (by omega) HB5.out.size, Or.inr ⟨HEQ.out, p, by rw [HJF.out], by rw [HJF.out]; exact ⟨srow_far HFR.out.1 HE5.out hg7, srow_far HFR.out.2 HE5.out hg7⟩⟩⟩
end Go.Proofs.YtfddgdbebhmcnaaGreatDoor
