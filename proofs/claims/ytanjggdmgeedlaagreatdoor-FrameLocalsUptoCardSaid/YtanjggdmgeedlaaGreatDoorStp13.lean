/-
  The walk of frame.After.
-/
import Derived.Test.YtanjggdmgeedlaaGreatDoorStp12
import Derived.Test.YtanjggdmgeedlaaGreatDoorFrm2
namespace Go.Proofs.YtanjggdmgeedlaaGreatDoor
set_option linter.unusedVariables false
set_option linter.unusedSimpArgs false
open Go.RowKit Go.Shelf Go.Lib Go.Sort

def AftRes (r : Option FrR) (w : World) (e : Ending) (w' : World) : Prop :=
  Below w.heap.size w w' ∧ ((r = none ∧ e = .returned (.tuple #[.agg #[.slice none 0 0, .slice none 0 0], .bool false])) ∨ ∃ g q, r = some g ∧ e = .returned (.tuple #[frV g q, .bool true]) ∧ FrAt w' g q ∧ (∀ ad, q.la = some ad → w.heap.size ≤ ad.block) ∧ ∀ ad, q.sa = some ad → w.heap.size ≤ ad.block)

set_option maxRecDepth 100000 in
set_option maxHeartbeats 8000000 in
theorem after_calls (l : List ClassR) (L : List CP) (b : Nat) (fr gv : Nm) (x : InsR) (f : FrR) (p : FAddr) (w : World) (hW : WOk w b l L) (hf : FrAt w f p) (hk : KOk (wl l) f) (hi : insErr x = 0) (hg : GvOk gv) (hfr : fr.length ≤ 1048576) (hty : x.ty.length ≤ 1048576) :
    Calls Tryz.prog 38 #[.map (some b), .string ⟨⟨fr⟩⟩, .string ⟨⟨gv⟩⟩, insV x, frV f p] w (AftRes (afterF (wl l) fr gv x f) w) := by
  have hmf : ∀ (fn : Fn) (first cap : Array Value) (w : World), (Instr.makeFunc fn first cap).run Tryz.prog w = .ok (.func fn first cap) w := fun _ _ _ _ => rfl
  obtain ⟨w1, hw1⟩ : ∃ w1, w1 = (((w.alloc (.cells (insArr x) 45)).alloc (.cells #[.slice p.la f.loc.length p.lc, .slice p.sa f.st.length p.sc] 48)).alloc (.cells #[.slice none 0 0, .slice none 0 0] 48)).alloc (.cells #[.bool false] 4) := ⟨_, rfl⟩
  have hb1 : Below w.heap.size w w1 := by rw [hw1]; exact bl_alloc (bl_alloc (bl_alloc (bl_alloc (Below.refl _ _) _) _) _) _
  have HX := Lib.hid (show Blk w1 w.heap.size 45 (insArr x) by rw [hw1]; exact (((blk_new _ _ _ _ rfl).alloc _).alloc _).alloc _)
  have HF := Lib.hid (show Blk w1 (w.heap.size + 1) 48 #[.slice p.la f.loc.length p.lc, .slice p.sa f.st.length p.sc] by rw [hw1]; exact ((blk_new _ _ _ _ (by simp)).alloc _).alloc _)
  have HO := Lib.hid (show Blk w1 (w.heap.size + 1 + 1) 48 #[.slice none 0 0, .slice none 0 0] by rw [hw1]; exact (blk_new _ _ _ _ (by simp)).alloc _)
  have HI := Lib.hid (show Blk w1 (w.heap.size + 1 + 1 + 1) 4 #[.bool false] by rw [hw1]; exact blk_new _ _ _ _ (by simp))
  have hs1 : w1.heap.size = w.heap.size + 1 + 1 + 1 + 1 := by rw [hw1]; simp
  have HB1 := Lib.hid hb1
  have HW1 := Lib.hid (hW.below hb1)
  have HK := Lib.hid hk
  have HC1 := Lib.hid (fun W (hw : Below w1.heap.size w1 W) => sclone_calls f.loc p.la p.lc W ((hf.1.below hb1).below hw) (by have := hk.loc; omega))
  have HC2 := Lib.hid (fun W (hw : Below w1.heap.size w1 W) => sclone_calls f.st p.sa p.sc W ((hf.2.below hb1).below hw) (by have := hk.st; omega))
  have HPL := Lib.hid (fun W c g (hw : Below w1.heap.size w1 W) (hs : Stp (wl l) W w1.heap.size c b fr gv g) => plain_all l L b c fr gv g x w1 W (hW.below hb1) hw hs hi hg)
  have HHE := Lib.hid (fun W c g (hw : Below w1.heap.size w1 W) (hs : Stp (wl l) W w1.heap.size c b fr gv g) => heap_all l L b c fr gv g x w1 W (hW.below hb1) hw hs hi hfr hty)
  have HSC := Lib.hid (fun W (hw : Below w1.heap.size w1 W) => (show W.cell? ⟨w.heap.size + 1, 0, none⟩ = some (.slice p.la f.loc.length p.lc) ∧ W.cell? ⟨w.heap.size + 1, 1, none⟩ = some (.slice p.sa f.st.length p.sc) from ⟨(HF.out.below hw).cell 0, (HF.out.below hw).cell 1⟩))
  obtain ⟨op, ia, ib, ty, cl, nm⟩ := x
  unfold insArr at hw1 HX
  unfold insV at *
  unfold frV
  clear hW hf hk hi hg hfr hty hb1
  go_enter_defers Tryz.func38, Tryz.ntmps38
  go_upto_region 2 with fail
  rw [← hw1]
  clear hw1
  go_region_held3 (fun W' => W'.cell? ⟨w.heap.size + 1, 0, none⟩ = some (.slice p.la f.loc.length p.lc) ∧ W'.cell? ⟨w.heap.size + 1, 1, none⟩ = some (.slice p.sa f.st.length p.sc))
    (first | exact HSC.out _ (Below.refl _ _) | exact HSC.out _ (Below.refl _ _).drew | exact HSC.out _ hb24 | exact HSC.out _ hb12 | exact HSC.out _ (bl_alloc hb24 _))
    ((first
    | (go_at_call 77
       with_reducible refine (HC1.out _ (Below.refl _ _).drew).mono ?_
       rintro e w2 ⟨⟨q2, rfl, ho2⟩, hb2⟩
       have hb12 := bl_trans (Below.refl w1.heap.size w1).drew hb2)
    | (go_at_call 77
       with_reducible refine (HC2.out _ hb12).mono ?_
       rintro e w3 ⟨⟨q3, rfl, ho3⟩, hb3⟩
       have hb24 := bl_trans hb12 hb3)))
  all_goals
    obtain ⟨w4, hw4⟩ : ∃ w4, w4 = w3.alloc (.cells #[.map (some b), .string ⟨⟨fr⟩⟩, .string ⟨⟨gv⟩⟩, .slice q2.1 f.loc.length q2.2, .slice q3.1 f.st.length q3.2] 142) := ⟨_, rfl⟩
    have hal : Below w3.heap.size w3 w4 := by rw [hw4]; exact bl_alloc (Below.refl _ _) _
    have HB4 := Lib.hid (bl_trans hb24 hal)
    have h12 : w1.heap.size ≤ w2.heap.size := hb12.size
    have h13 : w1.heap.size ≤ w3.heap.size := hb24.size
    have HS4 := Lib.hid (show Stp (wl l) w4 w1.heap.size w3.heap.size b fr gv f from by
      refine ⟨q2.1, q2.2, q3.1, q3.2, by rw [hw4]; exact blk_new _ _ _ _ rfl, own_below (own_below ho2 hb3) hal, own_below (own_down ho3 h12) hal, fun k hk e => ?_, h13, HK.out⟩
      have h1 := (ho2.lt k hk).2
      have h2 := (ho3.lt k e).1
      omega)
    have e0 := (HX.out.below HB4.out).cell 0
    have e1 := (HX.out.below HB4.out).cell 1
    have e2 := (HX.out.below HB4.out).cell 2
    have e3 := (HX.out.below HB4.out).cell 3
    have e4 := (HX.out.below HB4.out).cell 4
    have e5 := (HX.out.below HB4.out).cell 5
    have e6 := (HX.out.below HB4.out).lt
    rw [← hw4]
    obtain ⟨c, hc⟩ : ∃ c, c = w3.heap.size := ⟨_, rfl⟩
    rw [← hc] at HS4 ⊢
    clear hw4 hal hb24 hb12 hb2 hb3 ho2 ho3 h12 h13 HSC HC1 HC2 hc
    go_wp2_with fail
    refine (HPL.out _ c f HB4.out HS4.out).mono ?_
    rintro e w5 ⟨hb5, ⟨hn5, rfl⟩ | ⟨g5, hn5, rfl, hs5⟩⟩
    · have HB5 := Lib.hid hb5
      have HN := Lib.hid (show afterF (wl l) fr gv ⟨op, ia, ib, ty, cl, nm⟩ f = none by unfold afterF; rw [hn5]; rfl)
      clear hb5 hn5 e0 e1 e2 e3 e4 e5 e6
      go_wp2_with fail
      refine leaves_cons (f := 76) (args := #[.pointer (some ⟨w.heap.size + 1 + 1, 0, none⟩), .pointer (some ⟨w.heap.size + 1 + 1 + 1, 0, none⟩)]) (by simp) (by simp [go_sem]) ?_
      refine (catch_pan (w.heap.size + 1 + 1) (w.heap.size + 1 + 1 + 1) _ (HO.out.below HB5.out) (HI.out.below HB5.out)).mono ?_
      rintro e u' w9 ⟨rfl, rfl, hw9⟩
      have hk9 : Blk w9 (w.heap.size + 1 + 1) 48 #[.slice none 0 0, .slice none 0 0] := by
        rw [hw9]
        exact (gb_blk (gb_set (gb_refl _ _) 0 _) (blk_set (blk_set (HO.out.below HB5.out) 0 _) 1 _) (by omega)).alloc _
      have hi9 : Blk w9 (w.heap.size + 1 + 1 + 1) 4 #[.bool false] := by
        rw [hw9]
        exact (blk_set (gb_blk (gb_set (gb_refl _ _) 1 _) (gb_blk (gb_set (gb_refl _ _) 0 _) (HI.out.below HB5.out) (by omega)) (by omega)) 0 _).alloc _
      have HB9 := Lib.hid (show Below w.heap.size w w9 from by
        rw [hw9]
        refine bl_alloc ?_ _
        refine Below.setCell (p := ⟨w.heap.size + 1 + 1 + 1, 0, none⟩) ?_ (by show w.heap.size ≤ w.heap.size + 1 + 1 + 1; omega) _
        refine Below.setCell (p := ⟨w.heap.size + 1 + 1, 1, none⟩) ?_ (by show w.heap.size ≤ w.heap.size + 1 + 1; omega) _
        refine Below.setCell (p := ⟨w.heap.size + 1 + 1, 0, none⟩) ?_ (by show w.heap.size ≤ w.heap.size + 1 + 1; omega) _
        exact bl_trans HB1.out HB5.out)
      have d0 := hk9.cell 0
      have d1 := hk9.cell 1
      have d2 := hi9.cell 0
      simp [Leaves, settle, results, Tryz.results38, go_sem, d0, d1, d2]
      exact ⟨HB9.out, Or.inl ⟨HN.out, rfl⟩⟩
    · have HB5 := Lib.hid hb5
      have HS5 := Lib.hid hs5
      have HN5 := Lib.hid hn5
      clear hb5 hn5 hs5 e0 e1 e2 e3 e4 e5 e6
      have e0 := (HX.out.below HB5.out).cell 0
      have e1 := (HX.out.below HB5.out).cell 1
      have e2 := (HX.out.below HB5.out).cell 2
      have e3 := (HX.out.below HB5.out).cell 3
      have e4 := (HX.out.below HB5.out).cell 4
      have e5 := (HX.out.below HB5.out).cell 5
      have e6 := (HX.out.below HB5.out).lt
      go_wp2_with fail
      refine (HHE.out _ c g5 HB5.out HS5.out).mono ?_
      rintro e w6 ⟨hb6, ⟨hn6, rfl⟩ | ⟨g6, hn6, rfl, hs6⟩⟩
      · have HB6 := Lib.hid hb6
        have HN := Lib.hid (show afterF (wl l) fr gv ⟨op, ia, ib, ty, cl, nm⟩ f = none by unfold afterF; rw [HN5.out]; exact hn6)
        clear hb6 hn6 e0 e1 e2 e3 e4 e5 e6
        go_wp2_with fail
        refine leaves_cons (f := 76) (args := #[.pointer (some ⟨w.heap.size + 1 + 1, 0, none⟩), .pointer (some ⟨w.heap.size + 1 + 1 + 1, 0, none⟩)]) (by simp) (by simp [go_sem]) ?_
        refine (catch_pan (w.heap.size + 1 + 1) (w.heap.size + 1 + 1 + 1) _ (HO.out.below HB6.out) (HI.out.below HB6.out)).mono ?_
        rintro e u' w9 ⟨rfl, rfl, hw9⟩
        have hk9 : Blk w9 (w.heap.size + 1 + 1) 48 #[.slice none 0 0, .slice none 0 0] := by
          rw [hw9]
          exact (gb_blk (gb_set (gb_refl _ _) 0 _) (blk_set (blk_set (HO.out.below HB6.out) 0 _) 1 _) (by omega)).alloc _
        have hi9 : Blk w9 (w.heap.size + 1 + 1 + 1) 4 #[.bool false] := by
          rw [hw9]
          exact (blk_set (gb_blk (gb_set (gb_refl _ _) 1 _) (gb_blk (gb_set (gb_refl _ _) 0 _) (HI.out.below HB6.out) (by omega)) (by omega)) 0 _).alloc _
        have HB9 := Lib.hid (show Below w.heap.size w w9 from by
          rw [hw9]
          refine bl_alloc ?_ _
          refine Below.setCell (p := ⟨w.heap.size + 1 + 1 + 1, 0, none⟩) ?_ (by show w.heap.size ≤ w.heap.size + 1 + 1 + 1; omega) _
          refine Below.setCell (p := ⟨w.heap.size + 1 + 1, 1, none⟩) ?_ (by show w.heap.size ≤ w.heap.size + 1 + 1; omega) _
          refine Below.setCell (p := ⟨w.heap.size + 1 + 1, 0, none⟩) ?_ (by show w.heap.size ≤ w.heap.size + 1 + 1; omega) _
          exact bl_trans HB1.out HB6.out)
        have d0 := hk9.cell 0
        have d1 := hk9.cell 1
        have d2 := hi9.cell 0
        simp [Leaves, settle, results, Tryz.results38, go_sem, d0, d1, d2]
        exact ⟨HB9.out, Or.inl ⟨HN.out, rfl⟩⟩
      · have HB6 := Lib.hid hb6
        have HN := Lib.hid (show afterF (wl l) fr gv ⟨op, ia, ib, ty, cl, nm⟩ f = some g6 by unfold afterF; rw [HN5.out]; exact hn6)
        obtain ⟨la, lc, sa, sc, hst⟩ := hs6
        have HST := Lib.hid hst
        have c3 := hst.blk.cell 3
        have c4 := hst.blk.cell 4
        have c5 := hst.blk.lt
        have o1 := (HO.out.below hb6).cell 0
        have o2 := (HO.out.below hb6).cell 1
        have o3 := (HO.out.below hb6).frozen 0
        have o4 := (HO.out.below hb6).frozen 1
        have o5 := (HO.out.below hb6).lt
        have i1 := (HI.out.below hb6).cell 0
        have i2 := (HI.out.below hb6).frozen 0
        have i3 := (HI.out.below hb6).lt
        clear hb6 hn6 e0 e1 e2 e3 e4 e5 e6 hst
        go_wp2_with fail
        obtain ⟨w9, hw9⟩ : ∃ w9, w9 = ((w6.setCell ⟨w.heap.size + 1 + 1, 0, none⟩ (.slice la g6.loc.length lc)).setCell ⟨w.heap.size + 1 + 1, 1, none⟩ (.slice sa g6.st.length sc)).setCell ⟨w.heap.size + 1 + 1 + 1, 0, none⟩ (.bool true) := ⟨_, rfl⟩
        have hk9 : Blk w9 (w.heap.size + 1 + 1) 48 #[.slice la g6.loc.length lc, .slice sa g6.st.length sc] := by
          rw [hw9]
          exact gb_blk (gb_set (gb_refl _ _) 0 _) (blk_set (blk_set (HO.out.below HB6.out) 0 _) 1 _) (by omega)
        have hi9 : Blk w9 (w.heap.size + 1 + 1 + 1) 4 #[.bool true] := by
          rw [hw9]
          exact blk_set (gb_blk (gb_set (gb_refl _ _) 1 _) (gb_blk (gb_set (gb_refl _ _) 0 _) (HI.out.below HB6.out) (by omega)) (by omega)) 0 _
        have HB9 := Lib.hid (show Below w.heap.size w w9 from by
          rw [hw9]
          refine Below.setCell (p := ⟨w.heap.size + 1 + 1 + 1, 0, none⟩) ?_ (by show w.heap.size ≤ w.heap.size + 1 + 1 + 1; omega) _
          refine Below.setCell (p := ⟨w.heap.size + 1 + 1, 1, none⟩) ?_ (by show w.heap.size ≤ w.heap.size + 1 + 1; omega) _
          refine Below.setCell (p := ⟨w.heap.size + 1 + 1, 0, none⟩) ?_ (by show w.heap.size ≤ w.heap.size + 1 + 1; omega) _
          exact bl_trans HB1.out HB6.out)
        have keep : ∀ {v : Value} {n : Nat} {xs : List Value}, w6.ownsRow w1.heap.size 9 1 v n xs → w9.ownsRow w1.heap.size 9 1 v n xs := fun {v n xs} ho => by
          rw [hw9]
          have ne : ∀ g, g < w1.heap.size → v.ownBlock ≠ some g := fun g hg e => by have := (ho.lt g e).1; omega
          exact own_set (own_set (own_set ho (ne _ (by omega)) _) (ne _ (by omega)) _) (ne _ (by omega)) _
        have HFA := Lib.hid (show FrAt w9 g6 ⟨la, lc, sa, sc⟩ from by
          obtain ⟨a1, k1, h1, h2⟩ := srow_of_own (keep HST.out.lo)
          obtain ⟨a2, k2, h3, h4⟩ := srow_of_own (keep HST.out.so)
          simp only [Value.slice.injEq] at h1 h3
          obtain ⟨rfl, _, rfl⟩ := h1
          obtain ⟨rfl, _, rfl⟩ := h3
          exact ⟨h2, h4⟩)
        have HQ1 := Lib.hid (show ∀ ad, la = some ad → w.heap.size ≤ ad.block from fun ad e => by
          have := (HST.out.lo.lt ad.block (by rw [e]; rfl)).1
          omega)
        have HQ2 := Lib.hid (show ∀ ad, sa = some ad → w.heap.size ≤ ad.block from fun ad e => by
          have := (HST.out.so.lt ad.block (by rw [e]; rfl)).1
          omega)
        rw [← hw9]
        clear keep hw9
        refine leaves_cons (f := 76) (args := #[.pointer (some ⟨w.heap.size + 1 + 1, 0, none⟩), .pointer (some ⟨w.heap.size + 1 + 1 + 1, 0, none⟩)]) (by simp) (by simp [go_sem]) ?_
        refine (catch_idle _ _ _).mono ?_
        rintro e u' w10 ⟨rfl, rfl, rfl⟩
        have d0 := hk9.cell 0
        have d1 := hk9.cell 1
        have d2 := hi9.cell 0
        simp [Leaves, settle, results, Tryz.results38, go_sem, d0, d1, d2]
        exact ⟨HB9.out, Or.inr ⟨g6, ⟨la, lc, sa, sc⟩, HN.out, rfl, HFA.out, HQ1.out, HQ2.out⟩⟩
end Go.Proofs.YtanjggdmgeedlaaGreatDoor
