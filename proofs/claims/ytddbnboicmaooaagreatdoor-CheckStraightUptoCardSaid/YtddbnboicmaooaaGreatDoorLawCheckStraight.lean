import Derived.Test.YtddbnboicmaooaaGreatDoorRf1
import Derived.Test.YtddbnboicmaooaaGreatDoorRf2
import Derived.Test.YtddbnboicmaooaaGreatDoorStepX
import Derived.Test.YtddbnboicmaooaaGreatDoorFz
import Derived.Deep.CutRange
namespace Go.Proofs.YtddbnboicmaooaaGreatDoor
set_option maxRecDepth 100000
set_option maxHeartbeats 16000000
set_option linter.unusedVariables false
set_option linter.unusedSimpArgs false
open Go.RowKit Go.Shelf Go.Lib Go.Sort
theorem look_in {l : List ClassR} {d : ClassR} {c : Nm} (h : d ∈ l) (hc : d.nm = c) : (look (wl l) c).isSome = true := by
 unfold look wl
 rw [List.find?_isSome]
 exact ⟨d, by simp [h], by simp [hc]⟩
theorem hasAt_nm {c : Nm} {z : Int} {d : ClassR} (h : hasAt c z d = true) : d.nm = c := by
 unfold hasAt at h
 simp only [Bool.and_eq_true, beq_iff_eq] at h
 exact h.1
theorem kok_frB {L : List ClassR} {f : FrR} (h : KOk L f) : FrB f := fun y hy => by
 by_cases e1 : y = [78] ∨ y = [84]
 · rcases e1 with e | e <;> rw [e] <;> simp
 · by_cases e2 : TypeOk y
   · have := type_len25 e2; omega
   · have h8 := h.kn y hy
     rw [kind_bad e1 e2] at h8; cases h8
structure RndOk (l : List ClassR) (ps : List CAddr) (a : Option Addr) (cap : Nat) (c gv : Nm) (X : List (Nat × FrR)) (qs : List FAddr) (code : List InsR) (w : World) (aM : Option Addr) (cM : Nat) (ca : Option Addr) (cc : Nat) : Prop where
 maps : MapsIn w aM cM X qs
 cd : CodeAt w ca cc code
 len : X.length ≤ code.length
 le : code.length ≤ 40
 at_ : ∀ (k : Nat) (x : Nat × FrR), X[k]? = some x → x.1 = k
 step : ∀ (k : Nat) (x : Nat × FrR) (i : InsR) (q : FAddr), X[k]? = some x → code[k]? = some i → qs[k]? = some q → ∃ g, (∀ y, X[k + 1]? = some y → y.2 = g) ∧ (g.loc.length ≤ 8 ∧ g.st.length ≤ 8) ∧
   ∀ W, Below w.heap.size w W → Calls Tryz.prog 18 #[.slice a l.length cap, .string ⟨⟨c⟩⟩, .string ⟨⟨gv⟩⟩, insV i, frV x.2 q] W fun e w' => Below W.heap.size W w' ∧ ∃ q2, e = .returned (.tuple #[frV g q2, .nilIface]) ∧ FrAt w' g q2
theorem rnd_of {l : List ClassR} {ps : List CAddr} {a : Option Addr} {cap : Nat} {c : Nm} {m : MethR} {d : ClassR} {fr : Int → Option FrR} {qs : List FAddr} {w : World} {aM : Option Addr} {cM : Nat} {ca : Option Addr} {cc : Nat}
   (hC : ClassesAt w a cap l ps) (hF : FormsAt w) (hB : ClsOk l) (hc : c.length ≤ 1048576) (hg : Good l) (hd : d ∈ l) (hn : d.nm = c) (hm : m ∈ d.meths) (hab : m.abst = false) (hh : m.hs = []) (hj : ∀ x ∈ m.code, jumpsB x.op = false) (hlk : lookedF (wl l) c m = some fr)
   (hk : ∀ z f, fr z = some f → KOk (wl l) f ∧ 0 ≤ z ∧ z < (m.code.length : Int)) (hM : MapsIn w aM cM (mapsUp fr m.code.length) qs) (hCd : CodeAt w ca cc m.code) :
   RndOk l ps a cap c (givesL m) (mapsUp fr m.code.length) qs m.code w aM cM ca cc := by
 have hmo := good_mok hg hd hm hab
 obtain ⟨e, he⟩ := straight_frames hg hmo hh hj hlk
 obtain ⟨h1, h2⟩ := mapsUp_str he.has he.no he.lt
 have hty := args_gives hmo.ty
 have hgv : GvOk (givesL m) := hty.2.2.2
 have hgl : (givesL m).length ≤ 1048576 := by
   rcases hgv with h | h
   · rw [h]; simp
   · have := type_len25 h; omega
 refine ⟨hM, hCd, by have := he.lt; omega, hmo.flow.len, fun k x hx => (h2 k x hx).1, fun k x i q hx hi hq => ?_⟩
 obtain ⟨_, hfx, hke⟩ := h2 k x hx
 have hkx := (hk _ _ hfx).1
 obtain ⟨out, ho, hnx⟩ := he.step k x.2 i hke hfx hi
 have hio := hmo.flow.ins i (List.mem_of_getElem? hi)
 have hko := after_kok hio hkx ho
 refine ⟨out, fun y hy => ?_, ⟨hko.loc, hko.st⟩, fun W hW => ?_⟩
 · obtain ⟨_, hfy, hky⟩ := h2 (k + 1) y hy
   rw [hnx (by omega)] at hfy
   exact (Option.some.inj hfy).symm
 · refine (step_exact l ps a cap c (givesL m) i x.2 q W (hC.below hW) (hF.below hW) hB ((hM.frs k x q hx hq).below hW) (kok_frB hkx) ((tyB_of hB hg d hd m hm).2 i (List.mem_of_getElem? hi)) hgl hc (look_in hd hn)).mono ?_
   rintro e w' ⟨hb, ⟨z, hz, hno, rfl⟩ | ⟨_, _, _, _, g, q2, haf, rfl, hga⟩⟩
   · have := hno hg (chk_zero.2 ⟨⟨hkx.loc, hkx.st⟩, hkx.kn⟩) hio hgv
     rw [ho] at this; cases this
   · rw [ho] at haf
     cases haf
     exact ⟨hb, q2, rfl, hga⟩
theorem srow_off {W w7 : World} {a a0 a1 : Option Addr} {c g n0 c0 n1 c1 : Nat} {T : TypeId} {X : List Nm} (hr : SRow W a c X) (hb : Blk W g T #[.slice a0 n0 c0, .slice a1 n1 c1]) (hg : W.grownBy w7 (some g)) : SRow w7 a c X := by
 obtain ⟨h1, h2 | ⟨b, off, rfl, hlt, hc⟩⟩ := hr
 · exact ⟨h1, Or.inl h2⟩
 cases X with
 | nil => exact ⟨h1, Or.inl rfl⟩
 | cons x r =>
   have hne : b ≠ g := by
     intro e
     subst e
     have h3 := hc 0 x rfl
     rw [hb.cell] at h3
     match off, h3 with
     | 0, h3 => simp [strV] at h3
     | 1, h3 => simp [strV] at h3
     | n + 2, h3 => simp at h3
   exact gb_srow hg ⟨h1, Or.inr ⟨b, off, rfl, hlt, hc⟩⟩ (fun ad e => by cases e; exact hne)
theorem below_two {w w3 : World} (h : Below w.heap.size w w3) (g : Nat) (hg : w.heap.size ≤ g) (v0 v1 : Value) : Below w.heap.size w ((w3.setCell ⟨g, 0, none⟩ v0).setCell ⟨g, 1, none⟩ v1) :=
 (h.setCell (p := ⟨g, 0, none⟩) hg v0).setCell (p := ⟨g, 1, none⟩) hg v1
theorem checkStraight_go (l : List ClassR) (ps : List CAddr) (a : Option Addr) (cap : Nat) (c : Nm) (z : Int) (w : World) (hC : ClassesAt w a cap l ps) (hF : FormsAt w) (hB : ClsOk l) (hll : l.length ≤ 1048576) (hc : c.length ≤ 1048576) :
   Calls Tryz.prog 4 #[.slice a l.length cap, .string ⟨⟨c⟩⟩, .int .i64 z] w fun e w' => e = .returned (.bool true) ∧ Below w.heap.size w w' := by
 have HC := Hd hC
 have HF := Hd hF
 have HB := Hd hB
 clear hC hF hB
 go_enter Tryz.func4, Tryz.ntmps4
 go_wp2_with fail
 refine (named_true _).mono ?_
 rintro e w1 ⟨rfl, hb1⟩
 have HB1 := Hd hb1
 have HM := Hd (cmethod_exact l ps a cap c z w1 (HC.out.below hb1) (HF.out.below hb1) HB.out (tyB_of HB.out) hc)
 have HMF := Hd (fun W (hw : Below w.heap.size w W) => methodFaultQ_calls l ps a cap c z W (HC.out.below hw) (fun c h => (HB.out c h).1) hll)
 clear hb1
 go_wp2_with fail
 refine HM.out.mono ?_
 rintro e w2 ⟨hb2, ⟨hne, v, rfl⟩ | ⟨d, m, fr, v, B, D, hn, hd, hfd, hm, hab, hlk, hfr, rfl, hmp, hge⟩⟩
 · have HB2 := Hd (bl_trans HB1.out hb2)
   generalize mtErr l c z = ze at *
   have HNE := Hd hne
   clear hb2 hne
   go_wp2_with fail
   refine (HMF.out _ HB2.out).mono ?_
   rintro e w3 ⟨hb3, m3, q3, n3, rfl, _⟩
   have HB3 := Hd (fun o => bl_alloc (bl_trans HB2.out hb3) o)
   unfold methV
   clear hb3
   go_wp2_with fail
   go_ret
   exact ⟨rfl, HB3.out _⟩
 have HB2 := Hd (bl_trans HB1.out hb2)
 have HGD := Hd (show Good l from (readErr_zero l).1 (by
   by_cases h : readErr l = 0
   · exact h
   · exfalso; unfold namErr at hn; rw [if_pos h] at hn; exact h hn))
 have HD := Hd hd
 have HFD := Hd hfd
 have HMM := Hd hm
 have HAB := Hd hab
 have HLK := Hd hlk
 have HFRS := Hd hfr
 obtain ⟨X, hX⟩ : ∃ X, X = mapsUp fr m.code.length := ⟨_, rfl⟩
 rw [← hX] at hmp
 have HX := Hd hX
 obtain ⟨qs, hql, how, hqf⟩ := hmp
 have hzl : (List.zipWith mpCells X qs).length = X.length := by rw [List.length_zipWith]; omega
 obtain ⟨A, C, rfl, hrows⟩ := rows_of_own (L := List.zipWith mpCells X qs) (by rw [hzl]; exact how) (fun cs hcs => by
   obtain ⟨i, h3⟩ := List.mem_iff_getElem?.1 hcs
   rw [List.getElem?_zipWith] at h3
   split at h3
   · cases h3; rfl
   · cases h3)
 rw [hzl]
 have HMI := Hd (show MapsIn w2 A C X qs from ⟨hql, hrows, fun k x q h1 h2 => (hqf k x q h1 h2).1⟩)
 clear hb2 hn hd hfd hm hab hlk hfr hX how hrows hqf hge HM hzl
 go_wp2_with fail
 refine (HMF.out _ HB2.out).mono ?_
 rintro e w3 ⟨hb3, m3, q3, n3, rfl, hok⟩
 by_cases hn3 : n3 = 0
 case neg =>
   have HB3 := Hd (fun o => bl_alloc (bl_trans HB2.out hb3) o)
   have hn4 : (n3 != 0) = true := by rw [bne_iff_ne]; exact hn3
   unfold methV
   clear hb3 hok
   go_wp2_with fail
   go_ret
   exact ⟨rfl, HB3.out _⟩
 case pos =>
 obtain ⟨d3, hf3, hm3, hma3⟩ := hok hn3
 subst hn3
 have e1 := HFD.out
 rw [hf3] at e1
 cases e1
 have e2 := HMM.out
 rw [hm3] at e2
 cases e2
 obtain ⟨w4, hw4⟩ : ∃ w4, w4 = w3.alloc (.cells (mArr m q3) 45) := ⟨_, rfl⟩
 have hb4 : Below w3.heap.size w3 w4 := by rw [hw4]; exact bl_alloc (Below.refl _ _) _
 have HB4 := Hd (bl_trans HB2.out (bl_trans hb3 hb4))
 have HBX := Hd (show Blk w4 w3.heap.size 45 (mArr m q3) by rw [hw4]; exact blk_new _ _ _ _ rfl)
 have HMI4 := Hd (HMI.out.below (bl_trans hb3 hb4))
 have HMA4 := Hd (hma3.below hb4)
 rw [methV_arr]
 unfold mArr at hw4 ⊢
 clear hb3 hok hma3 hb4 HMI
 have hmo := good_mok HGD.out HD.out (List.mem_of_getElem? HMM.out) HAB.out
 have hcl := hmo.flow.len
 have HMO := Hd hmo
 have HST := Hd (fun W (hw : Below w4.heap.size w4 W) => straight_calls m.code q3.ca q3.cc W (HMA4.out.1.below hw) (by omega))
 clear hmo
 go_upto_region 6 with fail
 rw [← hw4]
 clear hw4
 obtain ⟨g0, g1, g2, g3, g4, g5, g6, g7⟩ := mblk_cells HBX.out
 have g8 := HBX.out.lt
 by_cases hh : m.hs = []
 case neg =>
   have hh2 : (0 : Int) < (m.hs.length : Int) := by have := List.length_pos_iff.2 hh; omega
   go_wp2_with fail
   go_ret
   exact ⟨rfl, HB4.out⟩
 case pos =>
 have HHS := Hd hh
 have hh2 : ¬ (0 : Int) < (m.hs.length : Int) := by rw [hh]; simp
 clear hh
 go_wp2_with fail
 refine (HST.out _ (Below.refl _ _)).mono ?_
 rintro e w5 ⟨⟨b, rfl, hstr⟩, hb5⟩
 have HB5 := Hd (bl_trans HB4.out hb5)
 have HSTR := Hd hstr
 have HBX5 := Hd (HBX.out.below hb5)
 have HMI5 := Hd (HMI4.out.below hb5)
 have HMA5 := Hd (HMA4.out.below hb5)
 clear hb5 hstr hh2 g0 g1 g2 g3 g4 g5 g6 g7 g8 HST
 cases b with
 | false =>
   go_simp
   go_wp2_with fail
   go_ret
   exact ⟨rfl, HB5.out⟩
 | true =>
 have HMTO := Hd (methodOf_calls m.ty (by have := ((HB.out d HD.out).2.meths m (List.mem_of_getElem? HMM.out)).ty; omega) w5)
 have HRND := Hd (show RndOk l ps a cap c (givesL m) X qs m.code w5 A C q3.ca q3.cc by
   rw [HX.out]
   exact rnd_of (HC.out.below HB5.out) (HF.out.below HB5.out) HB.out hc HGD.out HD.out (hasAt_nm (List.find?_some HFD.out)) (List.mem_of_getElem? HMM.out) HAB.out HHS.out (HSTR.out rfl) HLK.out HFRS.out (by rw [← HX.out]; exact HMI5.out) HMA5.out.1)
 have HTYO := Hd (args_gives HMO.out.ty)
 obtain ⟨gv, hgv⟩ : ∃ gv, gv = givesL m := ⟨_, rfl⟩
 rw [← hgv] at HRND HTYO
 clear HSTR hgv
 obtain ⟨g0, g1, g2, g3, g4, g5, g6, g7⟩ := mblk_cells HBX5.out
 have g8 := HBX5.out.lt
 go_simp
 go_wp2_with fail
 refine HMTO.out.mono ?_
 rintro e w6 ⟨hb6, hres⟩
 obtain ⟨va, vn, vc, rfl⟩ : ∃ va vn vc, e = .returned (.tuple #[.slice va vn vc, .string ⟨⟨gv⟩⟩, .bool true]) := by
   rcases hres with ⟨_, hno⟩ | ⟨v, B, g, rfl, hok2, hown⟩
   · exact absurd HTYO.out (hno _ _)
   · obtain ⟨a6, c6, rfl, _⟩ := slice_of_own hown
     obtain ⟨_, rfl⟩ := method_uniq hok2 HTYO.out
     exact ⟨_, _, _, rfl⟩
 have HB6 := Hd (bl_trans HB5.out hb6)
 have HB56 := Hd hb6
 have HBX6 := Hd (HBX5.out.below hb6)
 clear hb6 hres g0 g1 g2 g3 g4 g5 g6 g7 g8 HMTO HTYO HMA5 HMA4 HMI5 HMI4 HBX5 HBX
 have hXl := HRND.out.len
 go_wp2_with fail
 go_loopw [15] (fun i wr => ∃ k : Nat, k ≤ X.length ∧ i = .int .i64 k ∧ Below w6.heap.size w6 wr) (fun i _ => X.length - (RowKit.intOf i).toNat)
 case atStart => exact ⟨0, by omega, rfl, Below.refl _ _⟩
 case round =>
   obtain ⟨k, hk, rfl, hb⟩ := hrel
   have HBr := Hd hb
   have HBr5 := Hd (bl_trans HB56.out hb)
   have HBrw := Hd (bl_trans HB6.out hb)
   have i0 : (0 : Int) ≤ (k : Int) := Int.natCast_nonneg _
   have hwr : wrap64 ((k : Int) + 1) = (k : Int) + 1 := IntWalk.wrap64_in _ (by omega)
   have HBXr := Hd (HBX6.out.below hb)
   by_cases he : k < X.length
   · have i1 : (k : Int) < X.length := by omega
     obtain ⟨x, hx⟩ : ∃ x, X[k]? = some x := ⟨_, List.getElem?_eq_getElem he⟩
     obtain ⟨ins, hi⟩ : ∃ ins, m.code[k]? = some ins := ⟨_, List.getElem?_eq_getElem (by omega)⟩
     have hxk := HRND.out.at_ k x hx
     obtain ⟨bM, offM, qx, rfl, hltM, hqx, hfx, c0, c1, c2⟩ := (HRND.out.maps.below HBr5.out).cells hx
     obtain ⟨bc, offc, hca, hltc, d0, d1, d2, d3, d4, d5⟩ := (HRND.out.cd.below HBr5.out).cells hi
     obtain ⟨gF, hnx, hgl, hcall⟩ := HRND.out.step k x ins qx hx hi hqx
     rw [hxk] at c0
     obtain ⟨g0, g1, g2, g3, g4, g5, g6, g7⟩ := mblk_cells HBXr.out
     have g8 := HBXr.out.lt
     rw [hca] at g6
     have ic : (k : Int) < m.code.length := by omega
     have HCALL := Hd hcall
     have HNX := Hd hnx
     have HZK := Hd (show Blk (wr.alloc (.cells #[.slice none 0 0, .slice none 0 0] 67)).drew wr.heap.size 67 #[.slice none 0 0, .slice none 0 0] from (blk_new _ _ _ _ rfl).below (Below.drew (Below.refl _ _)))
     unfold insV frV at HCALL
     clear hb hx hi hxk hqx hfx hca hcall hnx
     go_upto_region 14 with fail
     go_cut [16, 17] from 62 to 108 (fun s16 s17 wx => ∃ (G : Nat) (q2 : FAddr), s16 = .pointer (some ⟨G, 0, none⟩) ∧ s17 = .nilIface ∧ Hid (Below w6.heap.size w6 wx) ∧ Hid (Blk wx G 67 #[.slice q2.la gF.loc.length q2.lc, .slice q2.sa gF.st.length q2.sc]) ∧ Hid (FrAt wx gF q2))
     case first =>
       go_region_with (go_at_call 18; refine (HCALL.out _ (by repeat (first | exact HBr5.out | refine Below.drew ?_ | refine bl_alloc ?_ _))).mono ?_; rintro e w7 ⟨hb7, q2, rfl, hga⟩; have HBW7 := Hd (bl_trans (show Below w6.heap.size w6 _ by repeat (first | exact HBr.out | refine Below.drew ?_ | refine bl_alloc ?_ _)) hb7); have HGA := Hd hga; (try (have hzk := HZK.out.below hb7; have HZ7 := Hd hzk; have z0 := hzk.cell 0; have z1 := hzk.cell 1; have y0 := hzk.frozen 0; have y1 := hzk.frozen 1; have z6 := hzk.lt; clear hzk)); clear hb7 hga)
       all_goals
         clear c0 c1 c2 d0 d1 d2 d3 d4 d5 g0 g1 g2 g3 g4 g5 g6 g7 g8 ic hltc
         (try clear z0 z1 y0 y1 z6)
         clear hwr
         go_simp
         go_step
         go_meet
         first
           | exact ⟨_, q2, rfl, rfl, Hd (bl_alloc HBW7.out _), Hd (blk_new _ _ _ _ rfl), Hd (HGA.out.below (bl_alloc (Below.refl _ _) _))⟩
           | exact ⟨_, q2, rfl, rfl, Hd (below_two HBW7.out _ HBr.out.size _ _), Hd (blk_set (blk_set HZ7.out 0 (.slice q2.la gF.loc.length q2.lc)) 1 (.slice q2.sa gF.st.length q2.sc)), Hd ⟨srow_off HGA.out.1 HZ7.out (gb_set (gb_set (gb_refl _ _) 0 _) 1 _), srow_off HGA.out.2 HZ7.out (gb_set (gb_set (gb_refl _ _) 0 _) 1 _)⟩⟩
     case rest =>
       obtain ⟨G, q2, rfl, rfl, HB9, HF9, HG9⟩ := hcut
       rename World => U
       clear c0 c1 c2 d0 d1 d2 d3 d4 d5 g0 g1 g2 g3 g4 g5 g6 g7 g8 ic hltc HZK
       have y0 := HF9.out.cell 0
       have y1 := HF9.out.cell 1
       have y2 := HF9.out.lt
       obtain ⟨k2, hk2⟩ : ∃ k2, k2 = k + 1 := ⟨_, rfl⟩
       have hw2 : wrap64 ((k : Int) + 1) = (k2 : Int) := hwr.trans (by rw [hk2]; simp)
       clear hwr
       have n0 : (0 : Int) ≤ (k2 : Int) := Int.natCast_nonneg _
       by_cases hk1 : k2 < X.length
       · obtain ⟨y, hy⟩ : ∃ y, X[k2]? = some y := ⟨_, List.getElem?_eq_getElem hk1⟩
         have hyg := HNX.out y (by rw [← hk2]; exact hy)
         obtain ⟨b2, off2, qy, hA2, hlt2, hqy, hfy, c0, c1, c2⟩ := (HRND.out.maps.below (bl_trans HB56.out HB9.out)).cells hy
         simp only [Option.some.injEq, Addr.mk.injEq, and_true] at hA2
         obtain ⟨rfl, rfl⟩ := hA2
         rw [hyg] at hfy c1 c2
         have HSF := Hd (fun Z (hZ : Below U.heap.size U Z) => sframe_calls gF q2 qy Z (HG9.out.below hZ) (hfy.below hZ) (by have := hgl.1; omega) (by have := hgl.2; omega))
         have j1 : (k2 : Int) < X.length := Int.ofNat_lt.2 hk1
         have HK2 := Hd hk2
         have HKX := Hd (And.intro he hk1)
         have HLT2 := Hd hlt2
         have HC1 := Hd c1
         have HC2 := Hd c2
         unfold frV at HSF
         clear hy hyg hqy hfy c0 hk2 hlt2 c1 c2 y0 y1 y2 hk he hk1 i0 i1 hXl hcl hgl hltM
         have HGR := Hd (fun (d : Nat) (os : Array Obj) => below_regrown U d os)
         have f0 := fun (d : Nat) (os : Array Obj) => (show (grow (redrawn U d) os).cell? ⟨G, 0, none⟩ = some (.slice q2.la gF.loc.length q2.lc) from (HF9.out.below (HGR.out d os)).cell 0)
         have f1 := fun (d : Nat) (os : Array Obj) => (show (grow (redrawn U d) os).cell? ⟨G, 1, none⟩ = some (.slice q2.sa gF.st.length q2.sc) from (HF9.out.below (HGR.out d os)).cell 1)
         have f2 := fun (d : Nat) (os : Array Obj) => (show (grow (redrawn U d) os).cell? ⟨bM, offM + k2 * 3 + 1, none⟩ = some (.slice qy.la gF.loc.length qy.lc) from ((HGR.out d os).cell (p := ⟨bM, offM + k2 * 3 + 1, none⟩) HLT2.out).trans HC1.out)
         have f3 := fun (d : Nat) (os : Array Obj) => (show (grow (redrawn U d) os).cell? ⟨bM, offM + k2 * 3 + 2, none⟩ = some (.slice qy.sa gF.st.length qy.sc) from ((HGR.out d os).cell (p := ⟨bM, offM + k2 * 3 + 2, none⟩) HLT2.out).trans HC2.out)
         go_upto_region 18 with fail
         refine wp_region_quiet_below (by kernel_rfl) (by kernel_rfl) ?_
         repeat (first | go_big_quiet_step (exact Calls.regrown_of (HSF.out _ (HGR.out _ _))) | quiet_step (exact Calls.regrown_of (HSF.out _ (HGR.out _ _))))
         refine wpQuiet_nil ?_
         intro _ hw'
         obtain ⟨⟨dq, osq⟩, hw''⟩ := hw'
         subst hw''
         have HB10 := Hd (bl_trans HB9.out (HGR.out dq osq))
         clear f0 f1 f2 f3 HGR HSF
         generalize grow (redrawn U dq) osq = U2 at *
         go_simp
         go_wp2_with fail
         go_roundw
         case rel => exact ⟨k2, by clear hw2; have := HK2.out; have := HKX.out; omega, by rw [hw2], HB10.out⟩
         case measure =>
           rw [hw2]
           clear hw2
           have := HK2.out
           have := HKX.out
           simp only [RowKit.intOf, Int.toNat_natCast]
           omega
       · have j1 : ¬ (k2 : Int) < X.length := fun h => hk1 (Int.ofNat_lt.1 h)
         have HK2 := Hd hk2
         have HKX := Hd (And.intro he hk1)
         clear hk2 hk he hk1 i0 i1 hXl hcl hgl hltM y0 y1 y2
         go_wp2_with fail
         go_roundw
         case rel => exact ⟨k2, by clear hw2; have := HK2.out; have := HKX.out; omega, by rw [hw2], HB9.out⟩
         case measure =>
           rw [hw2]
           clear hw2
           have := HK2.out
           have := HKX.out
           simp only [RowKit.intOf, Int.toNat_natCast]
           omega
   · obtain rfl : k = X.length := by omega
     clear hb
     go_wp2_with fail
     go_ret
     exact ⟨rfl, HBrw.out⟩
theorem checkStraight.walk {H : Type} {enc : TypeId × Value → H} {W : World} {base : Nat}
   {v0 : Value} {d0 : DataW H} {p0 : List MemPlace} (hv0 : Value.okWide Tryz.prog W .any base 51 v0) (h0 : DataW.Trod enc Tryz.prog W 0 (fun _ => true) true 51 v0 d0 p0)
   (s1 : ByteArray) (hs1 : s1.size ≤ maxLen) (hr1 : s1.data.toList.length ≤ reachBytes)
   (n2 : Int) (wf2 : (Lit.int .i64 n2).wf = true)
   (W' : World) (hW : W' = W) (hL : laidMetH Tryz.prog Rows.checkStraightUptoRow.laid W) {S : Prop} (_ : S) (hbulk : Rows.uptoBulkAll [d0, DataW.lit (.string s1.data.toList), DataW.lit (.int .i64 n2)] ≤ 1048576) :
   Calls Tryz.prog 4 #[v0, .string s1, .int .i64 n2] W' fun e w' => e = .returned (.bool true) ∧ Below W'.heap.size W' w' := by
 subst hW
 obtain ⟨a0, len0, cap0, rfl⟩ := WideShapes.okWide_slice Tryz.underlying51 hv0
 obtain ⟨fuel0, hf0⟩ := h0
 obtain ⟨aa0, cc0, l0, ps0, hcs0, hC0, hll0, ht0⟩ := open_classes hf0
 simp only [Value.cells, List.cons.injEq, and_true] at hcs0
 rw [hcs0]
 obtain ⟨⟨x1⟩⟩ := s1
 simp only [Rows.uptoBulkAll, Rows.uptoBulk] at hbulk
 exact checkStraight_go l0 ps0 aa0 cc0 x1 n2 W' hC0 (forms_of_laid hL (by kernel_rfl)) (ht0 (by omega)) (by omega) (by omega)
end Go.Proofs.YtddbnboicmaooaaGreatDoor
