import Derived.Test.YtbnkckjdgpiggaaGreatDoorSg
namespace Go.Proofs.YtbnkckjdgpiggaaGreatDoor
set_option maxRecDepth 100000
set_option maxHeartbeats 16000000
set_option linter.unusedVariables false
set_option linter.unusedSimpArgs false
open Go.RowKit Go.Shelf Go.Lib Go.Sort
def z0i (L : List zd) (r : Option FrR) (w : World) (e : Ending) (w' : World) : Prop :=
 Below w.heap.size w w' /\ ((r = none /\ e = .returned (.tuple #[.agg #[.slice none 0 0, .slice none 0 0], .bool false])) \/ ∃ g q, r = some g /\ KOk L g /\ e = .returned (.tuple #[frV g q, .bool true]) /\ zfg w' g q /\ (∀ ad, q.la = some ad -> w.heap.size <= ad.block) /\ ∀ ad, q.sa = some ad -> w.heap.size <= ad.block)
theorem zqz (l : List zd) (L : List CP) (b : Nat) (fr gv : Nm) (x : zal) (f : FrR) (p : zf9) (w : World) (hW : WOk w b l L) (hf : zfg w f p) (hk : KOk (wl l) f) (hi : zar x = 0) (hg : z8l gv) (hfr : fr.length <= 1048576) (hty : x.ty.length <= 1048576 /\ OpK x) :
   Calls Tryz.prog 124 #[.map (some b), .string ⟨⟨fr⟩⟩, .string ⟨⟨gv⟩⟩, zfe x, frV f p] w (z0i (wl l) (zb0 (wl l) fr gv x f) w) := by
 have hmf : ∀ (fn : Fn) (first cap : Array Value) (w : World), (Instr.makeFunc fn first cap).run Tryz.prog w = .ok (.func fn first cap) w := fun _ _ _ _ => rfl
 obtain ⟨w1, hw1⟩ : ∃ w1, w1 = (((w.alloc (.cells (zzt x) 40)).alloc (.cells #[.slice p.la f.loc.length p.lc, .slice p.sa f.st.length p.sc] 141)).alloc (.cells #[.slice none 0 0, .slice none 0 0] 141)).alloc (.cells #[.bool false] 4) := ⟨_, rfl⟩
 have hb1 : Below w.heap.size w w1 := by rw [hw1]; exact ze (ze (ze (ze (Below.refl _ _) _) _) _) _
 have HX := Hq (show Blk w1 w.heap.size 40 (zzt x) by rw [hw1]; exact (((zg _ _ _ _ rfl).alloc _).alloc _).alloc _)
 have HF := Hq (show Blk w1 (w.heap.size + 1) 141 #[.slice p.la f.loc.length p.lc, .slice p.sa f.st.length p.sc] by rw [hw1]; exact ((zg _ _ _ _ (by simp)).alloc _).alloc _)
 have HO := Hq (show Blk w1 (w.heap.size + 1 + 1) 141 #[.slice none 0 0, .slice none 0 0] by rw [hw1]; exact (zg _ _ _ _ (by simp)).alloc _)
 have HI := Hq (show Blk w1 (w.heap.size + 1 + 1 + 1) 4 #[.bool false] by rw [hw1]; exact zg _ _ _ _ (by simp))
 have hs1 : w1.heap.size = w.heap.size + 1 + 1 + 1 + 1 := by rw [hw1]; simp
 have HB1 := Hq hb1
 have HW1 := Hq (hW.below hb1)
 have HK := Hq hk
 have HC1 := Hq (fun W (hw : Below w1.heap.size w1 W) => zkb f.loc p.la p.lc W ((hf.1.below hb1).below hw) (by have := hk.loc; omega))
 have HC2 := Hq (fun W (hw : Below w1.heap.size w1 W) => zkb f.st p.sa p.sc W ((hf.2.below hb1).below hw) (by have := hk.st; omega))
 have HPL := Hq (fun W c g (hw : Below w1.heap.size w1 W) (hs : Stp (wl l) W w1.heap.size c b fr gv g) => zyy l L b c fr gv g x w1 W (hW.below hb1) hw hs hi hg hty.2)
 have HHE := Hq (fun W c g (hw : Below w1.heap.size w1 W) (hs : Stp (wl l) W w1.heap.size c b fr gv g) => z27 l L b c fr gv g x w1 W (hW.below hb1) hw hs hi hfr hty.2)
 have HSC := Hq (fun W (hw : Below w1.heap.size w1 W) => (show W.cell? ⟨w.heap.size + 1, 0, none⟩ = some (.slice p.la f.loc.length p.lc) /\ W.cell? ⟨w.heap.size + 1, 1, none⟩ = some (.slice p.sa f.st.length p.sc) from ⟨(HF.out.below hw).cell 0, (HF.out.below hw).cell 1⟩))
 obtain ⟨op, ia, ib, ty, cl, nm⟩ := x
 unfold zzt at hw1 HX
 unfold zfe at *
 unfold frV
 clear hW hf hk hi hg hfr hty hb1
 go_enter_defers Tryz.func124, Tryz.ntmps124
 go_upto_region 2 with fail
 rw [<- hw1]
 clear hw1
 go_region_held3 (fun W' => W'.cell? ⟨w.heap.size + 1, 0, none⟩ = some (.slice p.la f.loc.length p.lc) /\ W'.cell? ⟨w.heap.size + 1, 1, none⟩ = some (.slice p.sa f.st.length p.sc))
   (first | exact HSC.out _ (Below.refl _ _) | exact HSC.out _ (Below.refl _ _).drew | exact HSC.out _ hb24 | exact HSC.out _ hb12 | exact HSC.out _ (ze hb24 _))
   ((first
   | (go_at_call 161
      with_reducible refine (HC1.out _ (Below.refl _ _).drew).mono ?_
      rintro e w2 ⟨⟨q2, rfl, ho2⟩, hb2⟩
      have hb12 := zc (Below.refl w1.heap.size w1).drew hb2)
   | (go_at_call 161
      with_reducible refine (HC2.out _ hb12).mono ?_
      rintro e w3 ⟨⟨q3, rfl, ho3⟩, hb3⟩
      have hb24 := zc hb12 hb3)))
 all_goals
   obtain ⟨w4, hw4⟩ : ∃ w4, w4 = w3.alloc (.cells #[.map (some b), .string ⟨⟨fr⟩⟩, .string ⟨⟨gv⟩⟩, .slice q2.1 f.loc.length q2.2, .slice q3.1 f.st.length q3.2] 221) := ⟨_, rfl⟩
   have hal : Below w3.heap.size w3 w4 := by rw [hw4]; exact ze (Below.refl _ _) _
   have HB4 := Hq (zc hb24 hal)
   have h12 : w1.heap.size <= w2.heap.size := hb12.size
   have h13 : w1.heap.size <= w3.heap.size := hb24.size
   have HS4 := Hq (show Stp (wl l) w4 w1.heap.size w3.heap.size b fr gv f from by
     refine ⟨q2.1, q2.2, q3.1, q3.2, by rw [hw4]; exact zg _ _ _ _ rfl, zad (zad ho2 hb3) hal, zad (zjb ho3 h12) hal, fun k hk e => ?_, h13, HK.out⟩
     have h1 := (ho2.lt k hk).2
     have h2 := (ho3.lt k e).1
     omega)
   have e0 := (HX.out.below HB4.out).cell 0
   have e1 := (HX.out.below HB4.out).cell 1
   have e2 := (HX.out.below HB4.out).cell 2
   have e3 := (HX.out.below HB4.out).cell 3
   have e4 := (HX.out.below HB4.out).cell 4
   have e5 := (HX.out.below HB4.out).cell 5
   have e6 := (HX.out.below HB4.out).lt
   rw [<- hw4]
   obtain ⟨c, hc⟩ : ∃ c, c = w3.heap.size := ⟨_, rfl⟩
   rw [<- hc] at HS4 |-
   clear hw4 hal hb24 hb12 hb2 hb3 ho2 ho3 h12 h13 HSC HC1 HC2 hc
   go_wp2_with fail
   refine (HPL.out _ c f HB4.out HS4.out).mono ?_
   rintro e w5 ⟨hb5, ⟨hn5, rfl⟩ | ⟨g5, hn5, rfl, hs5⟩⟩
   . have HB5 := Hq hb5
     have HN := Hq (show zb0 (wl l) fr gv ⟨op, ia, ib, ty, cl, nm⟩ f = none by unfold zb0; rw [hn5]; rfl)
     clear hb5 hn5 e0 e1 e2 e3 e4 e5 e6
     go_wp2_with fail
     refine leaves_cons (f := 160) (args := #[.pointer (some ⟨w.heap.size + 1 + 1, 0, none⟩), .pointer (some ⟨w.heap.size + 1 + 1 + 1, 0, none⟩)]) (by simp) (by simp [go_sem]) ?_
     refine (zq2 (w.heap.size + 1 + 1) (w.heap.size + 1 + 1 + 1) _ (HO.out.below HB5.out) (HI.out.below HB5.out)).mono ?_
     rintro e u' w9 ⟨rfl, rfl, hw9⟩
     have hk9 : Blk w9 (w.heap.size + 1 + 1) 141 #[.slice none 0 0, .slice none 0 0] := by
       rw [hw9]
       exact (zac (zai (zp _ _) 0 _) (zm (zm (HO.out.below HB5.out) 0 _) 1 _) (by omega)).alloc _
     have hi9 : Blk w9 (w.heap.size + 1 + 1 + 1) 4 #[.bool false] := by
       rw [hw9]
       exact (zm (zac (zai (zp _ _) 1 _) (zac (zai (zp _ _) 0 _) (HI.out.below HB5.out) (by omega)) (by omega)) 0 _).alloc _
     have HB9 := Hq (show Below w.heap.size w w9 from by
       rw [hw9]
       refine ze ?_ _
       refine Below.setCell (p := ⟨w.heap.size + 1 + 1 + 1, 0, none⟩) ?_ (by show w.heap.size <= w.heap.size + 1 + 1 + 1; omega) _
       refine Below.setCell (p := ⟨w.heap.size + 1 + 1, 1, none⟩) ?_ (by show w.heap.size <= w.heap.size + 1 + 1; omega) _
       refine Below.setCell (p := ⟨w.heap.size + 1 + 1, 0, none⟩) ?_ (by show w.heap.size <= w.heap.size + 1 + 1; omega) _
       exact zc HB1.out HB5.out)
     have d0 := hk9.cell 0
     have d1 := hk9.cell 1
     have d2 := hi9.cell 0
     simp [Leaves, settle, results, Tryz.results124, go_sem, d0, d1, d2]
     exact ⟨HB9.out, Or.inl ⟨HN.out, rfl⟩⟩
   . have HB5 := Hq hb5
     have HS5 := Hq hs5
     have HN5 := Hq hn5
     clear hb5 hn5 hs5 e0 e1 e2 e3 e4 e5 e6
     have e0 := (HX.out.below HB5.out).cell 0
     have e1 := (HX.out.below HB5.out).cell 1
     have e2 := (HX.out.below HB5.out).cell 2
     have e3 := (HX.out.below HB5.out).cell 3
     have e4 := (HX.out.below HB5.out).cell 4
     have e5 := (HX.out.below HB5.out).cell 5
     have e6 := (HX.out.below HB5.out).lt
     go_wp2_with fail
     refine (HHE.out _ c g5 HB5.out HS5.out).mono ?_
     rintro e w6 ⟨hb6, ⟨hn6, rfl⟩ | ⟨g6, hn6, rfl, hs6⟩⟩
     . have HB6 := Hq hb6
       have HN := Hq (show zb0 (wl l) fr gv ⟨op, ia, ib, ty, cl, nm⟩ f = none by unfold zb0; rw [HN5.out]; exact hn6)
       clear hb6 hn6 e0 e1 e2 e3 e4 e5 e6
       go_wp2_with fail
       refine leaves_cons (f := 160) (args := #[.pointer (some ⟨w.heap.size + 1 + 1, 0, none⟩), .pointer (some ⟨w.heap.size + 1 + 1 + 1, 0, none⟩)]) (by simp) (by simp [go_sem]) ?_
       refine (zq2 (w.heap.size + 1 + 1) (w.heap.size + 1 + 1 + 1) _ (HO.out.below HB6.out) (HI.out.below HB6.out)).mono ?_
       rintro e u' w9 ⟨rfl, rfl, hw9⟩
       have hk9 : Blk w9 (w.heap.size + 1 + 1) 141 #[.slice none 0 0, .slice none 0 0] := by
         rw [hw9]
         exact (zac (zai (zp _ _) 0 _) (zm (zm (HO.out.below HB6.out) 0 _) 1 _) (by omega)).alloc _
       have hi9 : Blk w9 (w.heap.size + 1 + 1 + 1) 4 #[.bool false] := by
         rw [hw9]
         exact (zm (zac (zai (zp _ _) 1 _) (zac (zai (zp _ _) 0 _) (HI.out.below HB6.out) (by omega)) (by omega)) 0 _).alloc _
       have HB9 := Hq (show Below w.heap.size w w9 from by
         rw [hw9]
         refine ze ?_ _
         refine Below.setCell (p := ⟨w.heap.size + 1 + 1 + 1, 0, none⟩) ?_ (by show w.heap.size <= w.heap.size + 1 + 1 + 1; omega) _
         refine Below.setCell (p := ⟨w.heap.size + 1 + 1, 1, none⟩) ?_ (by show w.heap.size <= w.heap.size + 1 + 1; omega) _
         refine Below.setCell (p := ⟨w.heap.size + 1 + 1, 0, none⟩) ?_ (by show w.heap.size <= w.heap.size + 1 + 1; omega) _
         exact zc HB1.out HB6.out)
       have d0 := hk9.cell 0
       have d1 := hk9.cell 1
       have d2 := hi9.cell 0
       simp [Leaves, settle, results, Tryz.results124, go_sem, d0, d1, d2]
       exact ⟨HB9.out, Or.inl ⟨HN.out, rfl⟩⟩
     . have HB6 := Hq hb6
       have HN := Hq (show zb0 (wl l) fr gv ⟨op, ia, ib, ty, cl, nm⟩ f = some g6 by unfold zb0; rw [HN5.out]; exact hn6)
       obtain ⟨la, lc, sa, sc, hst⟩ := hs6
       have HST := Hq hst
       have c3 := hst.blk.cell 3
       have c4 := hst.blk.cell 4
       have c5 := hst.blk.lt
       have o1 := (HO.out.below hb6).cell 0
       have o2 := (HO.out.below hb6).cell 1
       have o3 := (HO.out.below hb6).frozen 0
       have o4 := (HO.out.below hb6).frozen 1
       have o5 := (HO.out.below hb6).lt
       have i1 := (HI.out.below hb6).cell 0
       have i2 := (HI.out.below hb6).frozen 0
       have i3 := (HI.out.below hb6).lt
       clear hb6 hn6 e0 e1 e2 e3 e4 e5 e6 hst
       go_wp2_with fail
       obtain ⟨w9, hw9⟩ : ∃ w9, w9 = ((w6.setCell ⟨w.heap.size + 1 + 1, 0, none⟩ (.slice la g6.loc.length lc)).setCell ⟨w.heap.size + 1 + 1, 1, none⟩ (.slice sa g6.st.length sc)).setCell ⟨w.heap.size + 1 + 1 + 1, 0, none⟩ (.bool true) := ⟨_, rfl⟩
       have hk9 : Blk w9 (w.heap.size + 1 + 1) 141 #[.slice la g6.loc.length lc, .slice sa g6.st.length sc] := by
         rw [hw9]
         exact zac (zai (zp _ _) 0 _) (zm (zm (HO.out.below HB6.out) 0 _) 1 _) (by omega)
       have hi9 : Blk w9 (w.heap.size + 1 + 1 + 1) 4 #[.bool true] := by
         rw [hw9]
         exact zm (zac (zai (zp _ _) 1 _) (zac (zai (zp _ _) 0 _) (HI.out.below HB6.out) (by omega)) (by omega)) 0 _
       have HB9 := Hq (show Below w.heap.size w w9 from by
         rw [hw9]
         refine Below.setCell (p := ⟨w.heap.size + 1 + 1 + 1, 0, none⟩) ?_ (by show w.heap.size <= w.heap.size + 1 + 1 + 1; omega) _
         refine Below.setCell (p := ⟨w.heap.size + 1 + 1, 1, none⟩) ?_ (by show w.heap.size <= w.heap.size + 1 + 1; omega) _
         refine Below.setCell (p := ⟨w.heap.size + 1 + 1, 0, none⟩) ?_ (by show w.heap.size <= w.heap.size + 1 + 1; omega) _
         exact zc HB1.out HB6.out)
       have keep : ∀ {v : Value} {n : Nat} {xs : List Value}, w6.ownsRow w1.heap.size 9 1 v n xs -> w9.ownsRow w1.heap.size 9 1 v n xs := fun {v n xs} ho => by
         rw [hw9]
         have ne : ∀ g, g < w1.heap.size -> v.ownBlock ≠ some g := fun g hg e => by have := (ho.lt g e).1; omega
         exact zax (zax (zax ho (ne _ (by omega)) _) (ne _ (by omega)) _) (ne _ (by omega)) _
       have HFA := Hq (show zfg w9 g6 ⟨la, lc, sa, sc⟩ from by
         obtain ⟨a1, k1, h1, h2⟩ := zl (keep HST.out.lo)
         obtain ⟨a2, k2, h3, h4⟩ := zl (keep HST.out.so)
         simp only [Value.slice.injEq] at h1 h3
         obtain ⟨rfl, _, rfl⟩ := h1
         obtain ⟨rfl, _, rfl⟩ := h3
         exact ⟨h2, h4⟩)
       have HQ1 := Hq (show ∀ ad, la = some ad -> w.heap.size <= ad.block from fun ad e => by
         have := (HST.out.lo.lt ad.block (by rw [e]; rfl)).1
         omega)
       have HQ2 := Hq (show ∀ ad, sa = some ad -> w.heap.size <= ad.block from fun ad e => by
         have := (HST.out.so.lt ad.block (by rw [e]; rfl)).1
         omega)
       rw [<- hw9]
       clear keep hw9
       refine leaves_cons (f := 160) (args := #[.pointer (some ⟨w.heap.size + 1 + 1, 0, none⟩), .pointer (some ⟨w.heap.size + 1 + 1 + 1, 0, none⟩)]) (by simp) (by simp [go_sem]) ?_
       refine (zwf _ _ _).mono ?_
       rintro e u' w10 ⟨rfl, rfl, rfl⟩
       have d0 := hk9.cell 0
       have d1 := hk9.cell 1
       have d2 := hi9.cell 0
       simp [Leaves, settle, results, Tryz.results124, go_sem, d0, d1, d2]
       exact ⟨HB9.out, Or.inr ⟨g6, ⟨la, lc, sa, sc⟩, HN.out, HST.out.kok, rfl, HFA.out, HQ1.out, HQ2.out⟩⟩
noncomputable def zd2 (L : List zd) (c : Nm) (f : FrR) : Option FrR := if zh L (z7 c) ≠ 0 then none else if zlp L (z7 c) (z7 ztl) = true then some ⟨f.loc, [z7 c]⟩ else none
theorem z8c (l : List zd) : zh (wl l) (z7 ztl) = 0 := zgy (k := .ty 0 (.cls ztl)) ⟨by omega, by decide, look_some.2 (by simp [wl, zhy, zoc])⟩
def z4e (r : Option FrR) (p : zf9) (w : World) (e : Ending) (w' : World) : Prop :=
 Below w.heap.size w w' /\ ((r = none /\ e = .returned (.tuple #[.agg #[.slice none 0 0, .slice none 0 0], .bool false])) \/ ∃ g q, r = some g /\ e = .returned (.tuple #[frV g q, .bool true]) /\ zfg w' g q /\ q.la = p.la /\ ∀ ad, q.sa = some ad -> w.heap.size <= ad.block)
theorem zqm (l : List zd) (L : List CP) (b : Nat) (lo hi at_ : Int) (c : Nm) (f : FrR) (p : zf9) (w : World) (hW : WOk w b l L) (hf : zfg w f p) (hc : c.length <= 1048576) :
   Calls Tryz.prog 123 #[.map (some b), .agg #[.int .i64 lo, .int .i64 hi, .int .i64 at_, .string ⟨⟨c⟩⟩], frV f p] w (z4e (zd2 (wl l) c f) p w) := by
 obtain ⟨w1, hw1⟩ : ∃ w1, w1 = ((w.alloc (.cells #[.int .i64 lo, .int .i64 hi, .int .i64 at_, .string ⟨⟨c⟩⟩] 184)).alloc (.cells #[.slice p.la f.loc.length p.lc, .slice p.sa f.st.length p.sc] 141)).alloc (.cells #[.slice none 0 0, .slice none 0 0] 141) := ⟨_, rfl⟩
 have hb1 : Below w.heap.size w w1 := by rw [hw1]; exact ze (ze (ze (Below.refl _ _) _) _) _
 have HH := Hq (show Blk w1 w.heap.size 184 #[.int .i64 lo, .int .i64 hi, .int .i64 at_, .string ⟨⟨c⟩⟩] by rw [hw1]; exact ((zg _ _ _ _ rfl).alloc _).alloc _)
 have HF := Hq (show Blk w1 (w.heap.size + 1) 141 #[.slice p.la f.loc.length p.lc, .slice p.sa f.st.length p.sc] by rw [hw1]; exact (zg _ _ _ _ (by simp)).alloc _)
 have HO := Hq (show Blk w1 (w.heap.size + 1 + 1) 141 #[.slice none 0 0, .slice none 0 0] by rw [hw1]; exact zg _ _ _ _ (by simp))
 have HB1 := Hq hb1
 have HFA := Hq hf.1
 have hs1 : w1.heap.size = w.heap.size + 1 + 1 + 1 := by rw [hw1]; simp
 have HBE := Hq (fun W (hw : Below w.heap.size w W) (u v : Value) => (show Below w.heap.size w ((W.setCell ⟨w.heap.size + 1 + 1, 0, none⟩ u).setCell ⟨w.heap.size + 1 + 1, 1, none⟩ v) from (hw.setCell (p := ⟨w.heap.size + 1 + 1, 0, none⟩) (by show w.heap.size <= w.heap.size + 1 + 1; omega) u).setCell (p := ⟨w.heap.size + 1 + 1, 1, none⟩) (by show w.heap.size <= w.heap.size + 1 + 1; omega) v))
 have HTH := Hq (fun w => zcg c hc w)
 have HTF := Hq (fun w => zcg ztl (by decide) w)
 have HKD := Hq (fun W (hw : Below w1.heap.size w1 W) => zhg l L b (z7 c) W ((hW.below hb1).below hw) (by simp [z7]; omega))
 have HDO := Hq (fun W (hw : Below w1.heap.size w1 W) (h : zh (wl l) (z7 c) = 0) => z4c l L b h (z8c l) W ((hW.below hb1).below hw))
 have e3 := HH.out.cell 3
 have e4 := HH.out.lt
 unfold frV
 clear hW hf hc hb1
 by_cases hk : zh (wl l) (z7 c) = 0
 . rw [hk, errOf_zero] at HKD
   have HD := Hq (fun W hw => HDO.out W hw hk)
   have HKT := Hq hk
   obtain ⟨d, hd⟩ : ∃ d, d = zlp (wl l) (z7 c) (z7 ztl) := ⟨_, rfl⟩
   rw [<- hd] at HD
   have HDD := Hq hd
   clear hk HDO hd
   go_enter Tryz.func123, Tryz.ntmps123
   go_upto_region 1 with fail
   rw [<- hw1]
   clear hw1
   go_wp2_with fail
   refine (HTH.out _).mono ?_
   rintro e wa ⟨rfl, rfl⟩
   go_wp2_with fail
   refine (HKD.out _ (Below.refl _ _)).mono ?_
   rintro e w2 ⟨rfl, hb2⟩
   have HB2 := Hq hb2
   clear e3 e4
   have e3 := (HH.out.below hb2).cell 3
   have e4 := (HH.out.below hb2).lt
   clear hb2
   go_wp2_with fail
   refine (HTH.out _).mono ?_
   rintro e wa ⟨rfl, rfl⟩
   go_wp2_with fail
   refine (HTF.out _).mono ?_
   rintro e wa ⟨rfl, rfl⟩
   go_wp2_with fail
   refine (HD.out _ HB2.out).mono ?_
   rintro e w3 ⟨rfl, hb3⟩
   have HB3 := Hq (zc HB2.out hb3)
   have HSZ := Hq (show ∀ ad : Addr, some (⟨w3.heap.size, 0, none⟩ : Addr) = some ad -> w.heap.size <= ad.block from fun ad e => by cases e; have h1 := (zc HB2.out hb3).size; have h2 := HB1.out.size; show w.heap.size <= w3.heap.size; omega)
   clear e3 e4 hb3
   have o1 := (HO.out.below HB3.out).cell 0
   have o2 := (HO.out.below HB3.out).cell 1
   have o3 := (HO.out.below HB3.out).frozen 0
   have o4 := (HO.out.below HB3.out).frozen 1
   have o5 := (HO.out.below HB3.out).lt
   cases d with
   | false =>
     have HE := Hq (show zd2 (wl l) c f = none by unfold zd2; rw [if_neg (by simpa using HKT.out), if_neg (by rw [<- HDD.out]; simp)])
     have y0 := (zm (zm (HO.out.below HB3.out) 0 (.slice none 0 0)) 1 (.slice none 0 0)).cell 0
     have y1 := (zm (zm (HO.out.below HB3.out) 0 (.slice none 0 0)) 1 (.slice none 0 0)).cell 1
     have HB9 := Hq (HBE.out _ (zc HB1.out HB3.out) (.slice none 0 0) (.slice none 0 0))
     go_wp2_with fail
     exact bodyPost_ret (v := .tuple #[.agg #[.slice none 0 0, .slice none 0 0], .bool false]) (by simp [results, Tryz.results123, go_sem, y0, y1]) rfl ⟨HB9.out, Or.inl ⟨HE.out, rfl⟩⟩
   | true =>
     have HE := Hq (show zd2 (wl l) c f = some ⟨f.loc, [z7 c]⟩ by unfold zd2; rw [if_neg (by simpa using HKT.out), if_pos HDD.out.symm])
     have HSC := Hq (fun W (hw : Below w3.heap.size w3 W) => (show W.cell? ⟨w.heap.size + 1, 0, none⟩ = some (.slice p.la f.loc.length p.lc) /\ W.cell? ⟨w.heap.size, 3, none⟩ = some (.string ⟨⟨c⟩⟩) from ⟨(HF.out.below (zc HB3.out hw)).cell 0, (HH.out.below (zc HB3.out hw)).cell 3⟩))
     have HSG := Hq (fun W (hg : w3.grownBy W (some (w.heap.size + 1 + 1))) => (show W.cell? ⟨w.heap.size + 1, 0, none⟩ = some (.slice p.la f.loc.length p.lc) /\ W.cell? ⟨w.heap.size, 3, none⟩ = some (.string ⟨⟨c⟩⟩) from ⟨(zac hg (HF.out.below HB3.out) (by omega)).cell 0, (zac hg (HH.out.below HB3.out) (by omega)).cell 3⟩))
     go_upto_region 3 with fail
     go_region_held3 (fun W' => W'.cell? ⟨w.heap.size + 1, 0, none⟩ = some (.slice p.la f.loc.length p.lc) /\ W'.cell? ⟨w.heap.size, 3, none⟩ = some (.string ⟨⟨c⟩⟩))
       (first | exact HSC.out _ (Below.refl _ _) | exact HSC.out _ (Below.refl _ _).drew | exact HSC.out _ (ze (Below.refl _ _).drew _) | exact HSC.out _ (ze (Below.refl _ _) _).drew | exact HSG.out _ (zb9 (zds (zai (zai (zp _ _) 0 _) 1 _) _)))
       ((go_at_call 87
         refine (HTH.out _).mono ?_
         rintro e wa ⟨rfl, rfl⟩))
     all_goals
       obtain ⟨w9, hw9⟩ : ∃ w9, w9 = (((w3.setCell ⟨w.heap.size + 1 + 1, 0, none⟩ (.slice p.la f.loc.length p.lc)).setCell ⟨w.heap.size + 1 + 1, 1, none⟩ (.slice (some ⟨w3.heap.size, 0, none⟩) 1 1)).alloc (.cells #[.string ⟨⟨z7 c⟩⟩] 9)).drew := ⟨_, rfl⟩
       have hk9 : Blk w9 (w.heap.size + 1 + 1) 141 #[.slice p.la f.loc.length p.lc, .slice (some ⟨w3.heap.size, 0, none⟩) 1 1] := by
         rw [hw9]
         exact ((zm (zm (HO.out.below HB3.out) 0 _) 1 _).alloc _).drew
       have HB9 := Hq (show Below w.heap.size w w9 by rw [hw9]; exact (ze (HBE.out _ (zc HB1.out HB3.out) _ _) _).drew)
       have HS9 := Hq (show zdl w9 (some ⟨w3.heap.size, 0, none⟩) 1 [z7 c] by
         have := zqq ((w3.setCell ⟨w.heap.size + 1 + 1, 0, none⟩ (.slice p.la f.loc.length p.lc)).setCell ⟨w.heap.size + 1 + 1, 1, none⟩ (.slice (some ⟨w3.heap.size, 0, none⟩) 1 1)) (z7 c)
         have hz : ((w3.setCell ⟨w.heap.size + 1 + 1, 0, none⟩ (.slice p.la f.loc.length p.lc)).setCell ⟨w.heap.size + 1 + 1, 1, none⟩ (.slice (some ⟨w3.heap.size, 0, none⟩) 1 1)).heap.size = w3.heap.size := by simp [World.setCell]
         rw [hz] at this
         rw [hw9]
         exact this)
       have y0 := hk9.cell 0
       have y1 := hk9.cell 1
       rw [<- hw9]
       clear hw9 HSC HSG o1 o2 o3 o4 o5 hk9
       go_wp2_with fail
       exact bodyPost_ret (v := .tuple #[.agg #[.slice p.la f.loc.length p.lc, .slice (some ⟨w3.heap.size, 0, none⟩) 1 1], .bool true]) (by simp [results, Tryz.results123, go_sem, y0, y1]) rfl ⟨HB9.out, Or.inr ⟨⟨f.loc, [z7 c]⟩, ⟨p.la, p.lc, some ⟨w3.heap.size, 0, none⟩, 1⟩, HE.out, rfl, ⟨HFA.out.below HB9.out, HS9.out⟩, rfl, HSZ.out⟩⟩
 . rw [za4 hk] at HKD
   have HE := Hq (show zd2 (wl l) c f = none by unfold zd2; rw [if_pos hk])
   generalize zh (wl l) (z7 c) = z at *
   clear hk HDO
   go_enter Tryz.func123, Tryz.ntmps123
   go_upto_region 1 with fail
   rw [<- hw1]
   clear hw1
   go_wp2_with fail
   refine (HTH.out _).mono ?_
   rintro e wa ⟨rfl, rfl⟩
   go_wp2_with fail
   refine (HKD.out _ (Below.refl _ _)).mono ?_
   rintro e w3 ⟨rfl, hb3⟩
   have HB3 := Hq hb3
   clear e3 e4 hb3
   have o1 := (HO.out.below HB3.out).cell 0
   have o2 := (HO.out.below HB3.out).cell 1
   have o3 := (HO.out.below HB3.out).frozen 0
   have o4 := (HO.out.below HB3.out).frozen 1
   have o5 := (HO.out.below HB3.out).lt
   have y0 := (zm (zm (HO.out.below HB3.out) 0 (.slice none 0 0)) 1 (.slice none 0 0)).cell 0
   have y1 := (zm (zm (HO.out.below HB3.out) 0 (.slice none 0 0)) 1 (.slice none 0 0)).cell 1
   have HB9 := Hq (HBE.out _ (zc HB1.out HB3.out) (.slice none 0 0) (.slice none 0 0))
   go_wp2_with fail
   exact bodyPost_ret (v := .tuple #[.agg #[.slice none 0 0, .slice none 0 0], .bool false]) (by simp [results, Tryz.results123, go_sem, y0, y1]) rfl ⟨HB9.out, Or.inl ⟨HE.out, rfl⟩⟩
theorem KOk.putO {L : List zd} {r : Option FrR} {k : Nm} {g : FrR} (h : putO r k = some g) (hr : ∀ f, r = some f -> KOk L f) (hk : zh L k = 0) : KOk L g := by
 unfold Go.Proofs.YtbnkckjdgpiggaaGreatDoor.putO at h
 obtain ⟨f, h1, h⟩ := oel h
 exact ((hr f h1).put hk h).1
theorem z4p {L : List zd} {t : Nm} {r : List Nm} {f g : FrR} (h : zbk L (t :: r) f = some g) : zh L t = 0 := by
 unfold zbk at h
 split at h
 . cases h
 . rename_i h2; simpa using h2
theorem zte {L : List zd} {t : Nm} {f g : FrR} (hk : KOk L f) (h : z8g L t f = some g) : KOk L g /\ zh L t = 0 := by
 unfold z8g at h
 split at h
 . cases h
 rename_i h0
 obtain ⟨f2, h2, h⟩ := oel h
 obtain ⟨⟨k, f3⟩, h3, h⟩ := oel h
 split at h
 . simp only [Option.some.injEq] at h
   subst h
   exact ⟨((hk.take h2).1.ref h3).1, by simpa using h0⟩
 . cases h
theorem zuy {L : List zd} {fr : Nm} {x : zal} {st : Bool} {f g : FrR} (hk : KOk L f) (h : z16 L fr x st f = some g) : KOk L g := by
 unfold z16 at h
 split at h
 . cases h
 split at h
 . unfold z7v at h
   obtain ⟨f1, h1, h⟩ := oel h
   obtain ⟨f2, h2, h⟩ := oel h
   have k1 := (hk.take h1).1
   have k2 : KOk L f2 := by
     split at h2
     . simp only [Option.some.injEq] at h2; subst h2; exact k1
     . exact (k1.take h2).1
   split at h
   . simp only [Option.some.injEq] at h; subst h; exact k2
   . split at h
     . cases h
     . rename_i h0
       exact (k2.put (by simpa using h0) h).1
 . cases h
theorem z1w {L : List zd} {a : Int} {ty : Nm} {f g : FrR} (hk : KOk L f) (h : zf1 L a ty f = some g) : KOk L g := by
 unfold zf1 at h
 split at h
 . simp only [Option.some.injEq] at h; subst h; exact hk
 . split at h <;> exact (hk.take h).1
theorem z0o {L : List zd} {gv : Nm} {x : zal} {f g : FrR} (hi : zar x = 0) (hk : KOk L f) (h : za2 L gv x f = some g) : KOk L g := by
 obtain ⟨_, ht, _⟩ := zix hi
 obtain ⟨op, ia, ib, ty, cl, nm⟩ := x
 unfold za2 at h
 dsimp only at h
 by_cases e2 : op = 2
 . subst e2
   rw [if_pos rfl] at h
   exact (hk.put (zeo L (by simpa [zbc] using ht)).1 h).1
 rw [if_neg e2] at h
 by_cases e3 : op = 3
 . rw [if_pos e3] at h
   exact (hk.put (z7m L) h).1
 rw [if_neg e3] at h
 by_cases e4 : op = 4
 . rw [if_pos e4] at h
   obtain ⟨k, hkk, h⟩ := oel h
   split at h
   . cases h
   . exact (hk.put (hk.mem1 k (List.mem_of_getElem? hkk)) h).1
 rw [if_neg e4] at h
 by_cases e5 : op = 5
 . rw [if_pos e5] at h
   obtain ⟨⟨k, f2⟩, hp, h⟩ := oel h
   obtain ⟨k2, k3, _⟩ := hk.pop hp
   split at h
   . simp only [Option.some.injEq] at h; subst h
     exact k2.set _ k3
   . cases h
 rw [if_neg e5] at h
 by_cases e6 : op = 6
 . rw [if_pos e6] at h
   cases hp : zkg f with
   | none => rw [hp] at h; cases h
   | some p =>
     rw [hp] at h
     simp only [Option.map_some, Option.some.injEq] at h
     subst h
     exact (hk.pop (k := p.1) hp).1
 rw [if_neg e6] at h
 by_cases e7 : op = 7
 . rw [if_pos e7] at h
   obtain ⟨⟨k, f2⟩, hp, h⟩ := oel h
   obtain ⟨k2, k3, _⟩ := hk.pop hp
   exact KOk.putO h (fun f3 h3 => (k2.put k3 h3).1) k3
 rw [if_neg e7] at h
 by_cases e8 : op = 8
 . rw [if_pos e8] at h
   obtain ⟨⟨k, f2⟩, hp, h⟩ := oel h
   obtain ⟨⟨k', f3⟩, hp', h⟩ := oel h
   obtain ⟨k2, k3, _⟩ := hk.pop hp
   obtain ⟨k4, k5, _⟩ := k2.pop hp'
   exact KOk.putO h (fun f5 h5 => (k4.put k3 h5).1) k5
 rw [if_neg e8] at h
 by_cases e9 : op = 9
 . rw [if_pos e9] at h
   obtain ⟨f2, h2, h⟩ := oel h
   have k2 := z1w hk h2
   have h' := h
   unfold Go.Proofs.YtbnkckjdgpiggaaGreatDoor.putO at h'
   obtain ⟨f3, h3, _⟩ := oel h'
   exact KOk.putO h (fun f5 h5 => (k2.take h5).1) (z4p h3)
 rw [if_neg e9] at h
 by_cases e10 : op = 10
 . subst e10
   rw [if_pos rfl] at h
   exact KOk.putO h (fun f5 h5 => (hk.take h5).1) (zeo L (by simpa [zbc] using ht)).1
 rw [if_neg e10] at h
 by_cases e11 : op = 11
 . rw [if_pos e11] at h
   exact KOk.putO h (fun f5 h5 => (hk.take h5).1) (zuu L)
 rw [if_neg e11] at h
 by_cases e12 : op = 12
 . rw [if_pos e12] at h
   exact (hk.take h).1
 rw [if_neg e12] at h
 by_cases e13 : op = 13
 . rw [if_pos e13] at h
   cases hp : zvf f with
   | none => rw [hp] at h; cases h
   | some p =>
     rw [hp] at h
     simp only [Option.map_some, Option.some.injEq] at h
     subst h
     exact (hk.ref (k := p.1) hp).1
 rw [if_neg e13] at h
 by_cases e26 : op = 26
 . rw [if_pos e26] at h
   split at h
   . simp only [Option.some.injEq] at h; subst h; exact hk
   . cases h
 rw [if_neg e26] at h
 by_cases e27 : op = 27
 . rw [if_pos e27] at h
   split at h
   . cases h
   . exact (hk.take h).1
 rw [if_neg e27] at h
 by_cases e28 : op = 28
 . rw [if_pos e28] at h
   exact (hk.take h).1
 rw [if_neg e28] at h
 simp only [Option.some.injEq] at h; subst h; exact hk
theorem z4u {L : List zd} {c n t : Nm} (h : z8j L c n = some t) : zh L t = 0 := by
 unfold z8j at h
 split at h
 . cases h
 obtain ⟨p, _, h⟩ := oel h
 split at h
 . cases h
 . rename_i h2
   simp only [Option.some.injEq] at h; subst h
   simpa using h2
theorem z3r {L : List zd} {fr : Nm} {x : zal} {f g : FrR} (hi : zar x = 0) (hk : KOk L f) (h : zm3 L fr x f = some g) : KOk L g := by
 obtain ⟨_, ht, _⟩ := zix hi
 obtain ⟨op, ia, ib, ty, cl, nm⟩ := x
 unfold zm3 at h
 dsimp only at h
 by_cases e15 : op = 15
 . rw [if_pos e15] at h
   split at h
   . cases h
   rename_i h0
   split at h
   . cases h
   . exact (hk.put (by simpa using h0) h).1
 rw [if_neg e15] at h
 by_cases e16 : op = 16
 . rw [if_pos e16] at h
   obtain ⟨t, h1, h⟩ := oel h
   exact KOk.putO h (fun f5 h5 => (hk.take h5).1) (z4u h1)
 rw [if_neg e16] at h
 by_cases e17 : op = 17
 . rw [if_pos e17] at h
   obtain ⟨t, _, h⟩ := oel h
   exact (hk.take h).1
 rw [if_neg e17] at h
 by_cases e18 : op = 18
 . subst e18
   rw [if_pos rfl] at h
   have h2 : zi ty /\ zi (91 :: ty) := by simpa [zbc] using ht
   split at h
   . cases h
   . rename_i h0
     exact KOk.putO h (fun f5 h5 => (hk.take h5).1) (zyo h2.2 (by simpa using h0))
 rw [if_neg e18] at h
 by_cases e19 : op = 19
 . rw [if_pos e19] at h
   obtain ⟨⟨k, f2⟩, hp, h⟩ := oel h
   split at h
   . exact ((hk.ref hp).1.put (zuu L) h).1
   . cases h
 rw [if_neg e19] at h
 by_cases e20 : op = 20
 . rw [if_pos e20] at h
   have h' := h
   unfold Go.Proofs.YtbnkckjdgpiggaaGreatDoor.putO at h'
   obtain ⟨f3, h3, _⟩ := oel h'
   exact KOk.putO h (fun f5 h5 => (zte hk h5).1) (zte hk h3).2
 rw [if_neg e20] at h
 by_cases e21 : op = 21
 . rw [if_pos e21] at h
   split at h
   . cases h
   . obtain ⟨f2, h2, h⟩ := oel h
     exact (zte (hk.take h2).1 h).1
 rw [if_neg e21] at h
 by_cases e22 : op = 22
 . rw [if_pos e22] at h
   split at h
   . cases h
   . rename_i h0
     obtain ⟨⟨k, f2⟩, hp, h⟩ := oel h
     exact ((hk.ref hp).1.put (by simpa using h0) h).1
 rw [if_neg e22] at h
 by_cases e23 : op = 23
 . rw [if_pos e23] at h
   split at h
   . cases h
   . obtain ⟨⟨k, f2⟩, hp, h⟩ := oel h
     exact ((hk.ref hp).1.put (zuu L) h).1
 rw [if_neg e23] at h
 by_cases e24 : op = 24
 . rw [if_pos e24] at h
   exact zuy hk h
 rw [if_neg e24] at h
 by_cases e25 : op = 25
 . rw [if_pos e25] at h
   exact zuy hk h
 rw [if_neg e25] at h
 simp only [Option.some.injEq] at h; subst h; exact hk
theorem zyp {L : List zd} {fr gv : Nm} {x : zal} {f g : FrR} (hi : zar x = 0) (hk : KOk L f) (h : zb0 L fr gv x f = some g) : KOk L g := by
 unfold zb0 at h
 obtain ⟨f2, h2, h⟩ := oel h
 exact z3r hi (z0o hi hk h2) h
theorem zjq {L : List zd} {c : Nm} {f g : FrR} (hk : KOk L f) (h : zd2 L c f = some g) : KOk L g := by
 unfold zd2 at h
 split at h
 . cases h
 rename_i h0
 split at h
 . simp only [Option.some.injEq] at h; subst h
   refine ⟨hk.loc, by simp, fun t ht => ?_⟩
   simp only [List.mem_append, List.mem_singleton] at ht
   rcases ht with ht | rfl
   . exact hk.mem1 t ht
   . simpa using h0
 . cases h
noncomputable def cFn (L : List zd) (h : zdd) (f : FrR) : Option FrR := zd2 L h.cl f
noncomputable def zm1 (L : List zd) (c : Nm) (m : zo) : Nat -> zcj -> Option zcj := zly L (cFn L) (zb0 L c (zdw m)) m.hs m.code
noncomputable def zfb (L : List zd) (c : Nm) (m : zo) : Option (Int -> Option FrR) :=
 if zcc L (zc8 c m).loc ≠ 0 then none else if zdw m ≠ [86] /\ zh L (zdw m) ≠ 0 then none else zp9 L m.code.length (zm1 L c m) (zcq (zc8 c m))
theorem z78 {L : List zd} {c gv : Nm} {m : zo} (hm : MOk m) : z62 L (cFn L) (zb0 L c gv) m.hs m.code :=
 ⟨fun f hf h g hg => zjq hf hg, fun f hf x hx g hg => zyp (hm.flow.ins x hx) hf hg, fun h hh => by have := hm.hs h hh; omega, hm.flow⟩
theorem zsq {l : List zd} (hg : zdf l) {c : Nm} {m : zo} (hm : MOk m) : ∀ z s s', znf (wl l) m.code.length s -> zm1 (wl l) c m z s = some s' -> zc6 (wl l) m.code.length s s' := fun _ _ _ h1 h2 => z5z hg (z78 hm) h1 h2
theorem zzo {g : Nat -> Nat} {b : Nat} (h : ∀ z, g z <= b) : ∀ n, zt3 g n <= b * n
 | 0 => by simp [zt3]
 | n + 1 => by
   have := zzo h n
   have := h n
   simp only [zt3, Nat.mul_succ]
   omega
theorem z6v {l : List zd} (hg : zdf l) {n : Nat} {s : zcj} (h : znf (wl l) n s) : mu (wl l) n s <= s.todo.length + 3201 * n := by
 unfold mu
 have : zt3 (fun z => pot (wl l) (s.fr z)) n <= 3201 * n := zzo (fun z => by
   unfold pot
   cases hf : s.fr (z : Int) with
   | none => simp
   | some f => have := z38 hg (h.kok _ _ hf).1; simp; omega) n
 omega
end Go.Proofs.YtbnkckjdgpiggaaGreatDoor
