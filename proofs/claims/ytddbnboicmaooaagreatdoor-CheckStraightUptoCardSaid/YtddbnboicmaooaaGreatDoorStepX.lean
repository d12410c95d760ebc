import Derived.Test.YtddbnboicmaooaaGreatDoorSh
namespace Go.Proofs.YtddbnboicmaooaaGreatDoor
set_option maxRecDepth 100000
set_option maxHeartbeats 16000000
set_option linter.unusedVariables false
set_option linter.unusedSimpArgs false
open Go.RowKit Go.Shelf Go.Lib Go.Sort
def StepEx (l : List ClassR) (fr gv : Nm) (x : InsR) (f : FrR) (w : World) (e : Ending) (w' : World) : Prop :=
 Below w.heap.size w w' ∧ ((∃ z, z ≠ 0 ∧ (Good l → chkErr (wl l) f = 0 → insErr x = 0 → GvOk gv → afterF (wl l) fr gv x f = none) ∧ e = .returned (.tuple #[.agg #[.slice none 0 0, .slice none 0 0], errV z])) ∨
   (Good l ∧ chkErr (wl l) f = 0 ∧ insErr x = 0 ∧ GvOk gv ∧ ∃ g q, afterF (wl l) fr gv x f = some g ∧ e = .returned (.tuple #[frV g q, .nilIface]) ∧ FrAt w' g q))
theorem step_exact (l : List ClassR) (ps : List CAddr) (a0 : Option Addr) (c0 : Nat) (fr gv : Nm) (x : InsR) (f : FrR) (p : FAddr) (w : World) (hC : ClassesAt w a0 c0 l ps) (hF : FormsAt w) (hB : ClsOk l) (hf : FrAt w f p) (hfb : FrB f) (hty : x.ty.length ≤ 1048576) (hgl : gv.length ≤ 1048576) (hfl : fr.length ≤ 1048576) (hfo : (look (wl l) fr).isSome = true) :
   Calls Tryz.prog 18 #[.slice a0 l.length c0, .string ⟨⟨fr⟩⟩, .string ⟨⟨gv⟩⟩, insV x, frV f p] w (StepEx l fr gv x f w) := by
 obtain ⟨w1, hw1⟩ : ∃ w1, w1 = ((w.alloc (.cells (insArr x) 40)).alloc (.cells #[.slice p.la f.loc.length p.lc, .slice p.sa f.st.length p.sc] 67)).alloc (.cells #[.slice none 0 0, .slice none 0 0] 67) := ⟨_, rfl⟩
 have hb1 : Below w.heap.size w w1 := by rw [hw1]; exact bl_alloc (bl_alloc (bl_alloc (Below.refl _ _) _) _) _
 have HX := Hd (show Blk w1 w.heap.size 40 (insArr x) by rw [hw1]; exact ((blk_new _ _ _ _ rfl).alloc _).alloc _)
 have HF := Hd (show Blk w1 (w.heap.size + 1) 67 #[.slice p.la f.loc.length p.lc, .slice p.sa f.st.length p.sc] by rw [hw1]; exact (blk_new _ _ _ _ (by simp)).alloc _)
 have HO := Hd (show Blk w1 (w.heap.size + 1 + 1) 67 #[.slice none 0 0, .slice none 0 0] by rw [hw1]; exact blk_new _ _ _ _ (by simp))
 have HB1 := Hd hb1
 have HBE := Hd (fun W (hw : Below w.heap.size w W) (u v : Value) => (show Below w.heap.size w ((W.setCell ⟨w.heap.size + 1 + 1, 0, none⟩ u).setCell ⟨w.heap.size + 1 + 1, 1, none⟩ v) from (hw.setCell (p := ⟨w.heap.size + 1 + 1, 0, none⟩) (by show w.heap.size ≤ w.heap.size + 1 + 1; omega) u).setCell (p := ⟨w.heap.size + 1 + 1, 1, none⟩) (by show w.heap.size ≤ w.heap.size + 1 + 1; omega) v))
 have HRD := Hd (read_w l ps a0 c0 w1 (hC.below hb1) (hF.below hb1) hB)
 have HCK := Hd (fun b W (hw : Below w1.heap.size w1 W) (hW : WOk W b l (wcp l ps)) => show Calls Tryz.prog 42 #[.map (some b), .agg #[.slice p.la f.loc.length p.lc, .slice p.sa f.st.length p.sc]] W (ChkRes (chkErr (wl l) f) W) from fcheck_calls l (wcp l ps) b f p W hW ((hf.below hb1).below hw) hfb)
 have HIO := Hd (fun W (hw : Below w1.heap.size w1 W) (h : insErr x = 0) => ins_ok x (by omega) W ((hF.below hb1).below hw) h)
 have HIB := Hd (fun W (hw : Below w1.heap.size w1 W) (h : insErr x ≠ 0) => ins_bad x (by omega) W ((hF.below hb1).below hw) h)
 have HAF := Hd (fun b W (hw : Below w1.heap.size w1 W) (hW : WOk W b l (wcp l ps)) (hk : KOk (wl l) f) (hi : insErr x = 0) (hg : GvOk gv) => safter_calls l (wcp l ps) b fr gv x f p W hW ((hf.below hb1).below hw) hk hi hg hfl hty)
 have hfm : fr.length ≤ maxLen := by unfold maxLen; omega
 have HFO := Hd hfo
 have HGL := Hd hgl
 obtain ⟨op, ia, ib, ty, cl, nm⟩ := x
 unfold insArr at hw1 HX
 unfold insV at *
 unfold frV at *
 clear hC hF hB hf hfb hty hgl hfl hfo hb1
 go_enter Tryz.func18, Tryz.ntmps18
 go_upto_region 1 with fail
 rw [← hw1]
 clear hw1
 go_wp2_with fail
 refine HRD.out.mono ?_
 rintro e w2 ⟨hb2, ⟨hz, rfl⟩ | ⟨hz, b, rfl, hW⟩⟩
 · have HZ := Hd hz
   have HWHY := Hd (show Good l → chkErr (wl l) f = 0 → insErr (⟨op, ia, ib, ty, cl, nm⟩ : InsR) = 0 → GvOk gv → afterF (wl l) fr gv (⟨op, ia, ib, ty, cl, nm⟩ : InsR) f = none from fun hg _ _ _ => absurd ((readErr_zero l).2 hg) hz)
   obtain ⟨z, hze⟩ : ∃ z, z = readErr l := ⟨_, rfl⟩
   rw [← hze] at HZ ⊢
   have HB2 := Hd hb2
   clear hz hze hb2 HRD HCK HIO HIB HAF
   have o1 := (HO.out.below HB2.out).cell 0
   have o2 := (HO.out.below HB2.out).cell 1
   have o3 := (HO.out.below HB2.out).frozen 0
   have o4 := (HO.out.below HB2.out).frozen 1
   have o5 := (HO.out.below HB2.out).lt
   have y0 := (blk_set (blk_set (HO.out.below HB2.out) 0 (.slice none 0 0)) 1 (.slice none 0 0)).cell 0
   have y1 := (blk_set (blk_set (HO.out.below HB2.out) 0 (.slice none 0 0)) 1 (.slice none 0 0)).cell 1
   have HB9 := Hd (HBE.out _ (bl_trans HB1.out HB2.out) (.slice none 0 0) (.slice none 0 0))
   go_wp2_with fail
   exact bodyPost_ret (v := .tuple #[.agg #[.slice none 0 0, .slice none 0 0], errV z]) (by simp [results, Tryz.results18, go_sem, y0, y1]) rfl ⟨HB9.out, Or.inl ⟨_, HZ.out, HWHY.out, rfl⟩⟩
 · have HGD := Hd ((readErr_zero l).1 hz)
   have HB2 := Hd hb2
   have HW2 := Hd hW
   have f0 := (HF.out.below hb2).cell 0
   have f1 := (HF.out.below hb2).cell 1
   have f2 := (HF.out.below hb2).lt
   clear hz hb2 hW HRD
   go_wp2_with fail
   refine (HCK.out b w2 HB2.out HW2.out).mono ?_
   rintro e w3 ⟨rfl, hb3⟩
   have HB3 := Hd (bl_trans HB2.out hb3)
   have HW3 := Hd (HW2.out.below hb3)
   clear hb3 f0 f1 f2 HCK
   by_cases hc : chkErr (wl l) f = 0
   · rw [hc, errOf_zero]
     have HCZ := Hd hc
     have e0 := (HX.out.below HB3.out).cell 0
     have e1 := (HX.out.below HB3.out).cell 1
     have e2 := (HX.out.below HB3.out).cell 2
     have e3 := (HX.out.below HB3.out).cell 3
     have e4 := (HX.out.below HB3.out).cell 4
     have e5 := (HX.out.below HB3.out).cell 5
     have e6 := (HX.out.below HB3.out).lt
     clear hc
     go_wp2_with fail
     by_cases hi : insErr ⟨op, ia, ib, ty, cl, nm⟩ = 0
     · refine (HIO.out w3 HB3.out hi).mono ?_
       rintro e w4 ⟨rfl, hb4⟩
       have HB4 := Hd (bl_trans HB3.out hb4)
       have HW4 := Hd (HW3.out.below hb4)
       have HI := Hd hi
       have hlk := cur_look2 (n := fr) HW4.out.at_ hfm
       rw [HW4.out.cl, HFO.out] at hlk
       unfold classV at hlk
       clear hb4 hi e0 e1 e2 e3 e4 e5 e6 HIO HIB
       go_upto_region 13 with fail
       obtain ⟨w5, hw5⟩ : ∃ w5, w5 = w4.alloc (.cells (cArr (curP (wcp l ps) fr)) 50) := ⟨_, rfl⟩
       have HB5 := Hd (show Below w1.heap.size w1 w5 by rw [hw5]; exact bl_alloc HB4.out _)
       have HW5 := Hd (HW4.out.below (show Below w4.heap.size w4 w5 by rw [hw5]; exact bl_alloc (Below.refl _ _) _))
       unfold cArr at hw5
       rw [← hw5]
       clear hw5 hlk
       have x0 := (HX.out.below HB5.out).cell 0
       have x1 := (HX.out.below HB5.out).cell 1
       have x2 := (HX.out.below HB5.out).cell 2
       have x3 := (HX.out.below HB5.out).cell 3
       have x4 := (HX.out.below HB5.out).cell 4
       have x5 := (HX.out.below HB5.out).cell 5
       have x6 := (HX.out.below HB5.out).lt
       have f0 := (HF.out.below HB5.out).cell 0
       have f1 := (HF.out.below HB5.out).cell 1
       have f2 := (HF.out.below HB5.out).lt
       have HKO := Hd (show KOk (wl l) f from ⟨(chk_zero.1 HCZ.out).1.1, (chk_zero.1 HCZ.out).1.2, (chk_zero.1 HCZ.out).2⟩)
       by_cases hv : gv = [86]
       · subst hv
         have HGV := Hd (show GvOk [86] from Or.inl rfl)
         go_wp2_with fail
         refine (HAF.out b w5 HB5.out HW5.out HKO.out HI.out HGV.out).mono ?_
         rintro e w7 ⟨hb7, ⟨hn7, rfl⟩ | ⟨g, q, hn7, _, rfl, hfa, hq1, hq2⟩⟩
         · have HB7 := Hd (bl_alloc (bl_trans HB5.out hb7) (.cells #[.slice none 0 0, .slice none 0 0] 67))
           have HWHY := Hd (show Good l → chkErr (wl l) f = 0 → insErr (⟨op, ia, ib, ty, cl, nm⟩ : InsR) = 0 → GvOk [86] → afterF (wl l) fr [86] (⟨op, ia, ib, ty, cl, nm⟩ : InsR) f = none from fun _ _ _ _ => hn7)
           clear hb7 hn7 x0 x1 x2 x3 x4 x5 x6 f0 f1 f2 HAF
           have o1 := (HO.out.below HB7.out).cell 0
           have o2 := (HO.out.below HB7.out).cell 1
           have o3 := (HO.out.below HB7.out).frozen 0
           have o4 := (HO.out.below HB7.out).frozen 1
           have o5 := (HO.out.below HB7.out).lt
           have y0 := (blk_set (blk_set (HO.out.below HB7.out) 0 (.slice none 0 0)) 1 (.slice none 0 0)).cell 0
           have y1 := (blk_set (blk_set (HO.out.below HB7.out) 0 (.slice none 0 0)) 1 (.slice none 0 0)).cell 1
           have HB9 := Hd (HBE.out _ (bl_trans HB1.out HB7.out) (.slice none 0 0) (.slice none 0 0))
           go_wp2_with fail
           exact bodyPost_ret (v := .tuple #[.agg #[.slice none 0 0, .slice none 0 0], errV 7]) (by simp [results, Tryz.results18, go_sem, y0, y1]) rfl ⟨HB9.out, Or.inl ⟨_, (by decide), HWHY.out, rfl⟩⟩
         · have hsw := HB5.out.size
           have hlt1 := HO.out.lt
           have HB7 := Hd (bl_alloc (bl_trans HB5.out hb7) (.cells #[.slice q.la g.loc.length q.lc, .slice q.sa g.st.length q.sc] 67))
           have HN7 := Hd hn7
           have o1 := (HO.out.below HB7.out).cell 0
           have o2 := (HO.out.below HB7.out).cell 1
           have o3 := (HO.out.below HB7.out).frozen 0
           have o4 := (HO.out.below HB7.out).frozen 1
           have o5 := (HO.out.below HB7.out).lt
           have y0 := (blk_set (blk_set (HO.out.below HB7.out) 0 (.slice q.la g.loc.length q.lc)) 1 (.slice q.sa g.st.length q.sc)).cell 0
           have y1 := (blk_set (blk_set (HO.out.below HB7.out) 0 (.slice q.la g.loc.length q.lc)) 1 (.slice q.sa g.st.length q.sc)).cell 1
           have HB9 := Hd (HBE.out _ (bl_trans HB1.out HB7.out) (.slice q.la g.loc.length q.lc) (.slice q.sa g.st.length q.sc))
           have HFA := Hd (show FrAt (((w7.alloc (.cells #[.slice q.la g.loc.length q.lc, .slice q.sa g.st.length q.sc] 67)).setCell ⟨w.heap.size + 1 + 1, 0, none⟩ (.slice q.la g.loc.length q.lc)).setCell ⟨w.heap.size + 1 + 1, 1, none⟩ (.slice q.sa g.st.length q.sc)) g q from by
             have hg : w7.grownBy (((w7.alloc (.cells #[.slice q.la g.loc.length q.lc, .slice q.sa g.st.length q.sc] 67)).setCell ⟨w.heap.size + 1 + 1, 0, none⟩ (.slice q.la g.loc.length q.lc)).setCell ⟨w.heap.size + 1 + 1, 1, none⟩ (.slice q.sa g.st.length q.sc)) (some (w.heap.size + 1 + 1)) := gb_set (gb_set (gb_alloc (gb_refl w7 _) _) 0 _) 1 _
             exact ⟨gb_srow hg hfa.1 (fun ad e => by have := hq1 ad e; omega), gb_srow hg hfa.2 (fun ad e => by have := hq2 ad e; omega)⟩)
           clear hb7 hn7 x0 x1 x2 x3 x4 x5 x6 f0 f1 f2 HAF hfa hq1 hq2
           unfold frV
           go_wp2_with fail
           exact bodyPost_ret (v := .tuple #[.agg #[.slice q.la g.loc.length q.lc, .slice q.sa g.st.length q.sc], .nilIface]) (by simp [results, Tryz.results18, go_sem, y0, y1]) rfl ⟨HB9.out, Or.inr ⟨HGD.out, HCZ.out, HI.out, HGV.out, g, q, HN7.out, rfl, HFA.out⟩⟩
       · have qv : (gv == [86]) = false := by rw [beq_eq_false_iff_ne]; exact hv
         by_cases hT : TypeOk gv
         · have HGV := Hd (show GvOk gv from Or.inr hT)
           have HCH := Hd (fun w => check_ok gv hT w)
           clear hv hT
           go_wp2_with fail
           refine (HCH.out _).mono ?_
           rintro e w6 ⟨rfl, hb6⟩
           have HB6 := Hd (bl_trans HB5.out hb6)
           have HW6 := Hd (HW5.out.below hb6)
           clear x0 x1 x2 x3 x4 x5 x6 f0 f1 f2
           have x0 := (HX.out.below HB6.out).cell 0
           have x1 := (HX.out.below HB6.out).cell 1
           have x2 := (HX.out.below HB6.out).cell 2
           have x3 := (HX.out.below HB6.out).cell 3
           have x4 := (HX.out.below HB6.out).cell 4
           have x5 := (HX.out.below HB6.out).cell 5
           have x6 := (HX.out.below HB6.out).lt
           have f0 := (HF.out.below HB6.out).cell 0
           have f1 := (HF.out.below HB6.out).cell 1
           have f2 := (HF.out.below HB6.out).lt
           clear hb6
           go_wp2_with fail
           refine (HAF.out b w6 HB6.out HW6.out HKO.out HI.out HGV.out).mono ?_
           rintro e w7 ⟨hb7, ⟨hn7, rfl⟩ | ⟨g, q, hn7, _, rfl, hfa, hq1, hq2⟩⟩
           · have HB7 := Hd (bl_alloc (bl_trans HB6.out hb7) (.cells #[.slice none 0 0, .slice none 0 0] 67))
             have HWHY := Hd (show Good l → chkErr (wl l) f = 0 → insErr (⟨op, ia, ib, ty, cl, nm⟩ : InsR) = 0 → GvOk gv → afterF (wl l) fr gv (⟨op, ia, ib, ty, cl, nm⟩ : InsR) f = none from fun _ _ _ _ => hn7)
             clear hb7 hn7 x0 x1 x2 x3 x4 x5 x6 f0 f1 f2 HAF
             have o1 := (HO.out.below HB7.out).cell 0
             have o2 := (HO.out.below HB7.out).cell 1
             have o3 := (HO.out.below HB7.out).frozen 0
             have o4 := (HO.out.below HB7.out).frozen 1
             have o5 := (HO.out.below HB7.out).lt
             have y0 := (blk_set (blk_set (HO.out.below HB7.out) 0 (.slice none 0 0)) 1 (.slice none 0 0)).cell 0
             have y1 := (blk_set (blk_set (HO.out.below HB7.out) 0 (.slice none 0 0)) 1 (.slice none 0 0)).cell 1
             have HB9 := Hd (HBE.out _ (bl_trans HB1.out HB7.out) (.slice none 0 0) (.slice none 0 0))
             go_wp2_with fail
             exact bodyPost_ret (v := .tuple #[.agg #[.slice none 0 0, .slice none 0 0], errV 7]) (by simp [results, Tryz.results18, go_sem, y0, y1]) rfl ⟨HB9.out, Or.inl ⟨_, (by decide), HWHY.out, rfl⟩⟩
           · have hsw := HB6.out.size
             have hlt1 := HO.out.lt
             have HB7 := Hd (bl_alloc (bl_trans HB6.out hb7) (.cells #[.slice q.la g.loc.length q.lc, .slice q.sa g.st.length q.sc] 67))
             have HN7 := Hd hn7
             have o1 := (HO.out.below HB7.out).cell 0
             have o2 := (HO.out.below HB7.out).cell 1
             have o3 := (HO.out.below HB7.out).frozen 0
             have o4 := (HO.out.below HB7.out).frozen 1
             have o5 := (HO.out.below HB7.out).lt
             have y0 := (blk_set (blk_set (HO.out.below HB7.out) 0 (.slice q.la g.loc.length q.lc)) 1 (.slice q.sa g.st.length q.sc)).cell 0
             have y1 := (blk_set (blk_set (HO.out.below HB7.out) 0 (.slice q.la g.loc.length q.lc)) 1 (.slice q.sa g.st.length q.sc)).cell 1
             have HB9 := Hd (HBE.out _ (bl_trans HB1.out HB7.out) (.slice q.la g.loc.length q.lc) (.slice q.sa g.st.length q.sc))
             have HFA := Hd (show FrAt (((w7.alloc (.cells #[.slice q.la g.loc.length q.lc, .slice q.sa g.st.length q.sc] 67)).setCell ⟨w.heap.size + 1 + 1, 0, none⟩ (.slice q.la g.loc.length q.lc)).setCell ⟨w.heap.size + 1 + 1, 1, none⟩ (.slice q.sa g.st.length q.sc)) g q from by
               have hg : w7.grownBy (((w7.alloc (.cells #[.slice q.la g.loc.length q.lc, .slice q.sa g.st.length q.sc] 67)).setCell ⟨w.heap.size + 1 + 1, 0, none⟩ (.slice q.la g.loc.length q.lc)).setCell ⟨w.heap.size + 1 + 1, 1, none⟩ (.slice q.sa g.st.length q.sc)) (some (w.heap.size + 1 + 1)) := gb_set (gb_set (gb_alloc (gb_refl w7 _) _) 0 _) 1 _
               exact ⟨gb_srow hg hfa.1 (fun ad e => by have := hq1 ad e; omega), gb_srow hg hfa.2 (fun ad e => by have := hq2 ad e; omega)⟩)
             clear hb7 hn7 x0 x1 x2 x3 x4 x5 x6 f0 f1 f2 HAF hfa hq1 hq2
             unfold frV
             go_wp2_with fail
             exact bodyPost_ret (v := .tuple #[.agg #[.slice q.la g.loc.length q.lc, .slice q.sa g.st.length q.sc], .nilIface]) (by simp [results, Tryz.results18, go_sem, y0, y1]) rfl ⟨HB9.out, Or.inr ⟨HGD.out, HCZ.out, HI.out, HGV.out, g, q, HN7.out, rfl, HFA.out⟩⟩
         · have HCH := Hd (fun w => check_bad gv hT (by have := HGL.out; omega) w)
           have HWHY := Hd (show Good l → chkErr (wl l) f = 0 → insErr (⟨op, ia, ib, ty, cl, nm⟩ : InsR) = 0 → GvOk gv → afterF (wl l) fr gv (⟨op, ia, ib, ty, cl, nm⟩ : InsR) f = none from fun _ _ _ h => h.elim (fun e => absurd e hv) (fun e => absurd e hT))
           clear hv hT HAF
           go_wp2_with fail
           refine (HCH.out _).mono ?_
           rintro e w6 ⟨rfl, hb6⟩
           have HB6 := Hd (bl_trans HB5.out hb6)
           clear hb6 x0 x1 x2 x3 x4 x5 x6 f0 f1 f2
           have o1 := (HO.out.below HB6.out).cell 0
           have o2 := (HO.out.below HB6.out).cell 1
           have o3 := (HO.out.below HB6.out).frozen 0
           have o4 := (HO.out.below HB6.out).frozen 1
           have o5 := (HO.out.below HB6.out).lt
           have y0 := (blk_set (blk_set (HO.out.below HB6.out) 0 (.slice none 0 0)) 1 (.slice none 0 0)).cell 0
           have y1 := (blk_set (blk_set (HO.out.below HB6.out) 0 (.slice none 0 0)) 1 (.slice none 0 0)).cell 1
           have HB9 := Hd (HBE.out _ (bl_trans HB1.out HB6.out) (.slice none 0 0) (.slice none 0 0))
           go_wp2_with fail
           exact bodyPost_ret (v := .tuple #[.agg #[.slice none 0 0, .slice none 0 0], errV 1]) (by simp [results, Tryz.results18, go_sem, y0, y1]) rfl ⟨HB9.out, Or.inl ⟨_, (by decide), HWHY.out, rfl⟩⟩
     · refine (HIB.out w3 HB3.out hi).mono ?_
       rintro e w4 ⟨rfl, hb4⟩
       have HB4 := Hd (bl_trans HB3.out hb4)
       have HZ := Hd hi
       have HWHY := Hd (show Good l → chkErr (wl l) f = 0 → insErr (⟨op, ia, ib, ty, cl, nm⟩ : InsR) = 0 → GvOk gv → afterF (wl l) fr gv (⟨op, ia, ib, ty, cl, nm⟩ : InsR) f = none from fun _ _ h _ => absurd h hi)
       obtain ⟨z, hze⟩ : ∃ z, z = insErr ⟨op, ia, ib, ty, cl, nm⟩ := ⟨_, rfl⟩
       rw [← hze] at HZ ⊢
       clear hi hze hb4 e0 e1 e2 e3 e4 e5 e6 HIO HIB HAF
       have o1 := (HO.out.below HB4.out).cell 0
       have o2 := (HO.out.below HB4.out).cell 1
       have o3 := (HO.out.below HB4.out).frozen 0
       have o4 := (HO.out.below HB4.out).frozen 1
       have o5 := (HO.out.below HB4.out).lt
       have y0 := (blk_set (blk_set (HO.out.below HB4.out) 0 (.slice none 0 0)) 1 (.slice none 0 0)).cell 0
       have y1 := (blk_set (blk_set (HO.out.below HB4.out) 0 (.slice none 0 0)) 1 (.slice none 0 0)).cell 1
       have HB9 := Hd (HBE.out _ (bl_trans HB1.out HB4.out) (.slice none 0 0) (.slice none 0 0))
       go_wp2_with fail
       exact bodyPost_ret (v := .tuple #[.agg #[.slice none 0 0, .slice none 0 0], errV z]) (by simp [results, Tryz.results18, go_sem, y0, y1]) rfl ⟨HB9.out, Or.inl ⟨_, HZ.out, HWHY.out, rfl⟩⟩
   · rw [errOf_ne hc]
     have HZ := Hd hc
     have HWHY := Hd (show Good l → chkErr (wl l) f = 0 → insErr (⟨op, ia, ib, ty, cl, nm⟩ : InsR) = 0 → GvOk gv → afterF (wl l) fr gv (⟨op, ia, ib, ty, cl, nm⟩ : InsR) f = none from fun _ h _ _ => absurd h hc)
     obtain ⟨z, hze⟩ : ∃ z, z = chkErr (wl l) f := ⟨_, rfl⟩
     rw [← hze] at HZ ⊢
     clear hc hze HIO HIB HAF
     have o1 := (HO.out.below HB3.out).cell 0
     have o2 := (HO.out.below HB3.out).cell 1
     have o3 := (HO.out.below HB3.out).frozen 0
     have o4 := (HO.out.below HB3.out).frozen 1
     have o5 := (HO.out.below HB3.out).lt
     have y0 := (blk_set (blk_set (HO.out.below HB3.out) 0 (.slice none 0 0)) 1 (.slice none 0 0)).cell 0
     have y1 := (blk_set (blk_set (HO.out.below HB3.out) 0 (.slice none 0 0)) 1 (.slice none 0 0)).cell 1
     have HB9 := Hd (HBE.out _ (bl_trans HB1.out HB3.out) (.slice none 0 0) (.slice none 0 0))
     go_wp2_with fail
     exact bodyPost_ret (v := .tuple #[.agg #[.slice none 0 0, .slice none 0 0], errV z]) (by simp [results, Tryz.results18, go_sem, y0, y1]) rfl ⟨HB9.out, Or.inl ⟨_, HZ.out, HWHY.out, rfl⟩⟩
end Go.Proofs.YtddbnboicmaooaaGreatDoor
