import Derived.Test.YtddbnboicmaooaaGreatDoorRe9
import Derived.Test.YtddbnboicmaooaaGreatDoorCe
namespace Go.Proofs.YtddbnboicmaooaaGreatDoor
set_option maxRecDepth 100000
set_option maxHeartbeats 16000000
set_option linter.unusedVariables false
set_option linter.unusedSimpArgs false
open Go.RowKit Go.Shelf Go.Lib
theorem classes_len {w : World} {a : Option Addr} {cap : Nat} {l : List ClassR} {ps : List CAddr} (h : ClassesAt w a cap l ps) : l.length ≤ cap := by
 have := h.2.1.1
 rw [List.length_zipWith, h.1] at this
 omega
theorem below_six {w w3 : World} (h : Below w.heap.size w w3) (g : Nat) (hg : w.heap.size ≤ g) (v0 v1 v2 v3 v4 v5 : Value) :
   Below w.heap.size w ((((((w3.setCell ⟨g, 0, none⟩ v0).setCell ⟨g, 1, none⟩ v1).setCell ⟨g, 2, none⟩ v2).setCell ⟨g, 3, none⟩ v3).setCell ⟨g, 4, none⟩ v4).setCell ⟨g, 5, none⟩ v5) :=
 (((((h.setCell (p := ⟨g, 0, none⟩) hg v0).setCell (p := ⟨g, 1, none⟩) hg v1).setCell (p := ⟨g, 2, none⟩) hg v2).setCell (p := ⟨g, 3, none⟩) hg v3).setCell (p := ⟨g, 4, none⟩) hg v4).setCell (p := ⟨g, 5, none⟩) hg v5
theorem worldFault_calls (l : List ClassR) (ps : List CAddr) (a : Option Addr) (cap : Nat) (w : World) (hC : ClassesAt w a cap l ps) (hB : ∀ c ∈ l, ClassB c) :
   Calls Tryz.prog 39 #[.slice a l.length cap] w (SomeE w) := by
 have HC := Hd hC
 have HCB := Hd hB
 have hlc := classes_len hC
 clear hC hB
 by_cases h10 : 10 < l.length
 · have i10 : (10 : Int) < l.length := by omega
   go_enter Tryz.func39, Tryz.ntmps39
   go_wp2_with fail
   go_ret
   exact ⟨⟨_, rfl⟩, Below.refl _ _⟩
 have hll : l.length ≤ 10 := by omega
 have i10 : ¬ (10 : Int) < l.length := by omega
 clear h10
 go_enter Tryz.func39, Tryz.ntmps39
 go_wp2_with fail
 clear i10
 go_loopw [3] (fun i wr => ∃ k : Nat, k ≤ l.length ∧ i = .int .i64 k ∧ Below w.heap.size w wr ∧ Hid (∀ c ∈ l.take k, c.faces.length ≤ 8)) (fun i _ => l.length - (RowKit.intOf i).toNat)
 case atStart => exact ⟨0, by omega, rfl, Below.refl _ _, Hd (by simp)⟩
 case round =>
   obtain ⟨k, hk, rfl, hb, H8⟩ := hrel
   have HB := Hd hb
   have i0 : (0 : Int) ≤ k := Int.natCast_nonneg _
   have hwr : wrap64 ((k : Int) + 1) = (k : Int) + 1 := IntWalk.wrap64_in _ (by omega)
   by_cases he : k < l.length
   · have i1 : (k : Int) < l.length := by omega
     obtain ⟨c, hx⟩ : ∃ c, l[k]? = some c := ⟨_, List.getElem?_eq_getElem he⟩
     have HX := Hd hx
     have HCF := Hd (fun W (hw : Below w.heap.size w W) p (hp : ps[k]? = some p) => classFault_calls c p W ((HC.out.2.2 k c p hx hp).below hw) (HCB.out c (List.mem_of_getElem? hx)))
     have HCO := Hd (fun n W (hw : Below w.heap.size w W) => rclassOf_calls (l.take k) (ps.take k) a cap n W (classes_take (HC.out.below hw) k) (by rw [List.length_take]; omega))
     rw [show (l.take k).length = k by rw [List.length_take]; omega] at HCO
     obtain ⟨b, off, p, rfl, hlt, hp, _, c0, c1, c2, c3, c4, c5⟩ := (HC.out.below hb).cells hx
     have HCW := Hd (fun W (hw : Below w.heap.size w W) => HCF.out W hw p hp)
     unfold classV at HCW
     clear hb hx HCF hp
     go_wp2_with fail
     refine (HCW.out _ HB.out).mono ?_
     rintro e w2 ⟨⟨n, rfl, hn8⟩, hb2⟩
     have HB2 := Hd (bl_trans HB.out hb2)
     have c0 := (hb2.cell (p := ⟨b, off + k * 6, none⟩) hlt).trans c0
     have hlt2 := Nat.lt_of_lt_of_le hlt hb2.size
     have HN8 := Hd hn8
     clear hb2 hn8 c1 c2 c3 c4 c5 hlt
     by_cases hn : n = 0
     · subst hn
       have HT := Hd (take_all_succ (P := fun c => c.faces.length ≤ 8) H8.out HX.out (HN8.out rfl))
       have hcap : (k : Int) ≤ (cap : Int) := by omega
       clear HN8 H8
       go_upto_region 9 with fail
       have HZK := Hd (show Blk (w2.alloc (.cells #[.string ⟨#[]⟩, .string ⟨#[]⟩, .slice none 0 0, .bool false, .slice none 0 0, .slice none 0 0] 50)).drew w2.heap.size 50 #[.string ⟨#[]⟩, .string ⟨#[]⟩, .slice none 0 0, .bool false, .slice none 0 0, .slice none 0 0] from (blk_new _ _ _ _ rfl).below (Below.drew (Below.refl _ _)))
       go_region_with (go_at_call 77; refine (HCO.out _ _ (by repeat (first | exact HB2.out | refine Below.drew ?_ | refine bl_alloc ?_ _))).mono ?_; rintro e w3 ⟨hb3, d, q, bb, rfl, right⟩; have HB3 := Hd (bl_trans (show Below w.heap.size w _ by repeat (first | exact HB2.out | refine Below.drew ?_ | refine bl_alloc ?_ _)) hb3); (try (have hzk := HZK.out.below hb3; have z0 := hzk.cell 0; have z1 := hzk.cell 1; have z2 := hzk.cell 2; have z3 := hzk.cell 3; have z4 := hzk.cell 4; have z5 := hzk.cell 5; have y0 := hzk.frozen 0; have y1 := hzk.frozen 1; have y2 := hzk.frozen 2; have y3 := hzk.frozen 3; have y4 := hzk.frozen 4; have y5 := hzk.frozen 5; have z6 := hzk.lt; clear hzk)); clear hb3; unfold classV)
       all_goals
         obtain ⟨W, hW⟩ : ∃ W, W = (((((w3.setCell ⟨w2.heap.size, 0, none⟩ (.string ⟨⟨d.nm⟩⟩)).setCell ⟨w2.heap.size, 1, none⟩ (.string ⟨⟨d.sup⟩⟩)).setCell ⟨w2.heap.size, 2, none⟩ (.slice q.fa d.faces.length q.fc)).setCell ⟨w2.heap.size, 3, none⟩ (.bool d.face)).setCell ⟨w2.heap.size, 4, none⟩ (.slice q.ga d.fields.length q.gc)).setCell ⟨w2.heap.size, 5, none⟩ (.slice q.ma d.meths.length q.mc) := ⟨_, rfl⟩
         obtain ⟨V, hV⟩ : ∃ V, V = w3.alloc (.cells #[.string ⟨⟨d.nm⟩⟩, .string ⟨⟨d.sup⟩⟩, .slice q.fa d.faces.length q.fc, .bool d.face, .slice q.ga d.fields.length q.gc, .slice q.ma d.meths.length q.mc] 50) := ⟨_, rfl⟩
         have HBW := Hd (show Below w.heap.size w W by rw [hW]; exact below_six HB3.out _ HB2.out.size _ _ _ _ _ _)
         have HBV := Hd (show Below w.heap.size w V by rw [hV]; exact bl_alloc HB3.out _)
         clear c0 right
         (try clear z0 z1 z2 z3 z4 z5 z6 y0 y1 y2 y3 y4 y5)
         cases bb with
         | true =>
           go_simp
           first
             | (rw [← hW]; have HBX := HBW)
             | (rw [← hV]; have HBX := HBV)
           clear hW hV HBW HBV
           go_wp2_with fail
           go_ret
           exact ⟨⟨_, rfl⟩, HBX.out⟩
         | false =>
           go_simp
           first
             | (rw [← hW]; have HBX := HBW)
             | (rw [← hV]; have HBX := HBV)
           clear hW hV HBW HBV
           go_wp2_with fail
           go_roundw
           case rel => exact ⟨k + 1, by omega, by simp, HBX.out, HT⟩
           case measure => simp [RowKit.intOf]; omega
     · have hn2 : (n != 0) = true := by rw [bne_iff_ne]; exact hn
       go_wp2_with fail
       go_ret
       exact ⟨⟨_, rfl⟩, HB2.out⟩
   · obtain rfl : k = l.length := by omega
     have HF8 := Hd (show ∀ c ∈ l, c.faces.length ≤ 8 by have := H8.out; rwa [List.take_length] at this)
     clear hk hwr i0 hb H8
     go_wp2_with fail
     go_loopw [7] (fun i wq => ∃ k : Nat, k ≤ l.length ∧ i = .int .i64 k ∧ Below w.heap.size w wq) (fun i _ => l.length - (RowKit.intOf i).toNat)
     case atStart => exact ⟨0, by omega, rfl, HB.out⟩
     case round =>
       obtain ⟨k, hk, rfl, hb⟩ := hrel
       have HBq := Hd hb
       have i0 : (0 : Int) ≤ k := Int.natCast_nonneg _
       have hwr : wrap64 ((k : Int) + 1) = (k : Int) + 1 := IntWalk.wrap64_in _ (by omega)
       by_cases he2 : k < l.length
       · have i1 : (k : Int) < l.length := by omega
         obtain ⟨c, hx⟩ : ∃ c, l[k]? = some c := ⟨_, List.getElem?_eq_getElem he2⟩
         have HJF := Hd (fun W (hw : Below w.heap.size w W) p (hp : ps[k]? = some p) => joinedFault_calls l ps a cap c p W (HC.out.below hw) hll ((HC.out.2.2 k c p hx hp).1.below hw) (HF8.out c (List.mem_of_getElem? hx)))
         obtain ⟨b, off, p, rfl, hlt, hp, _, c0, c1, c2, c3, c4, c5⟩ := (HC.out.below hb).cells hx
         have HJW := Hd (fun W (hw : Below w.heap.size w W) => HJF.out W hw p hp)
         unfold classV at HJW
         clear hb hx HJF hp
         go_wp2_with fail
         refine (HJW.out _ HBq.out).mono ?_
         rintro e w2 ⟨⟨n, rfl⟩, hb2⟩
         have HB2 := Hd (bl_trans HBq.out hb2)
         clear hb2 c0 c1 c2 c3 c4 c5 hlt
         go_wp2_with fail
         · go_ret
           exact ⟨⟨_, rfl⟩, HB2.out⟩
         · go_roundw
           case rel => exact ⟨k + 1, by omega, by simp, HB2.out⟩
           case measure => simp [RowKit.intOf]; omega
       · obtain rfl : k = l.length := by omega
         clear hk hwr i0 hb
         go_wp2_with fail
         go_loopw [9] (fun i wz => ∃ k : Nat, k ≤ l.length ∧ i = .int .i64 k ∧ Below w.heap.size w wz) (fun i _ => l.length - (RowKit.intOf i).toNat)
         case atStart => exact ⟨0, by omega, rfl, HBq.out⟩
         case round =>
           obtain ⟨k, hk, rfl, hb⟩ := hrel
           have HBz := Hd hb
           have i0 : (0 : Int) ≤ k := Int.natCast_nonneg _
           have hwr : wrap64 ((k : Int) + 1) = (k : Int) + 1 := IntWalk.wrap64_in _ (by omega)
           by_cases he3 : k < l.length
           · have i1 : (k : Int) < l.length := by omega
             obtain ⟨c, hx⟩ : ∃ c, l[k]? = some c := ⟨_, List.getElem?_eq_getElem he3⟩
             have HUW := Hd (fun n W (hw : Below w.heap.size w W) => upward_calls l ps a cap n W (HC.out.below hw) hll HF8.out)
             obtain ⟨b, off, p, rfl, hlt, hp, _, c0, c1, c2, c3, c4, c5⟩ := (HC.out.below hb).cells hx
             clear hb hx hp c1 c2 c3 c4 c5
             go_upto_region 21 with fail
             go_region_with (first
               | (go_at_call 80; refine (HUW.out _ _ (by repeat (first | exact HBz.out | refine Below.drew ?_))).mono ?_; rintro e w5 ⟨hb5, v5, A5, rfl, ho5, hA5⟩; obtain ⟨a5, c5', rfl, hr5⟩ := srow_of_own ho5; have HB5 := Hd (bl_trans (show Below w.heap.size w _ by repeat (first | exact HBz.out | refine Below.drew ?_)) hb5); have c0 := (hb5.cell (p := ⟨b, off + k * 6, none⟩) hlt).trans c0; have hlt5 := Nat.lt_of_lt_of_le hlt hb5.size; have HIN := Hd (fun x W (hW : Below w5.heap.size w5 W) => rin_calls A5 x a5 c5' W (hr5.below hW) (by omega)); clear hb5 ho5 hr5)
               | (go_at_call 79; refine (HIN.out _ _ (by repeat (first | exact Below.refl _ _ | refine Below.drew ?_))).mono ?_; rintro e w6 ⟨rfl, rfl⟩))
             all_goals
               clear c0 HIN
               go_simp
               go_wp2_with fail
               · go_ret
                 exact ⟨⟨_, rfl⟩, by repeat (first | exact HB5.out | refine Below.drew ?_)⟩
               · go_roundw
                 case rel => exact ⟨k + 1, by omega, by simp, by repeat (first | exact HB5.out | refine Below.drew ?_)⟩
                 case measure => simp [RowKit.intOf]; omega
           · obtain rfl : k = l.length := by omega
             go_wp2_with fail
             go_ret
             exact ⟨⟨_, rfl⟩, HBz.out⟩
def MfRes (l : List ClassR) (c : Nm) (z : Int) (w : World) (e : Ending) (w' : World) : Prop :=
 Below w.heap.size w w' ∧ ∃ (m : MethR) (q : MAddr) (n : Int), e = .returned (.tuple #[methV m q, .int .i64 n]) ∧ (n = 0 → ∃ d, l.find? (hasAt c z) = some d ∧ d.meths[z.toNat]? = some m ∧ MethAt w' m q)
theorem methodFaultQ_calls (l : List ClassR) (ps : List CAddr) (a : Option Addr) (cap : Nat) (c : Nm) (z : Int) (w : World) (hC : ClassesAt w a cap l ps) (hB : ∀ c ∈ l, ClassB c) (hll : l.length ≤ 1048576) :
   Calls Tryz.prog 16 #[.slice a l.length cap, .string ⟨⟨c⟩⟩, .int .i64 z] w (MfRes l c z w) := by
 have HC := Hd hC
 have HBD := Hd hB
 have HB0 := Hd (fun o => bl_alloc (Below.refl w.heap.size w) o)
 have HR := Hd (fun o => worldFault_calls l ps a cap (w.alloc o) (hC.below (bl_alloc (Below.refl _ _) _)) hB)
 clear hC hB
 go_enter Tryz.func16, Tryz.ntmps16
 go_wp2_with fail
 refine (HR.out _).mono ?_
 rintro e w2 ⟨⟨n, rfl⟩, hb2⟩
 have HB2 := Hd (bl_trans (HB0.out _) hb2)
 have HZ2 := Hd (show Blk w2 w.heap.size 45 (mArr zeroMR nilM) from (blk_new w w.heap.size 45 (mArr zeroMR nilM) rfl).below hb2)
 have hs2 := HB2.out.size
 have hz2 := HZ2.out.lt
 clear hb2 HR
 by_cases hn : n = 0
 case neg =>
   have hn2 : (n != 0) = true := by rw [bne_iff_ne]; exact hn
   have HNE := Hd hn
   clear hn
   go_wp2_with (refine wpList_store_blk (x := .tmp 6) (y := .tmp 14) (ty := 45) (g := w.heap.size) (cells := mArr zeroMR nilM) (by rfl) (by rfl) (by rfl) (by rfl) HZ2.out info_meth rfl (mArr_one zeroMR nilM) ?_)
   intro W2 hbk hgr
   obtain ⟨d0, d1, d2, d3, d4, d5, d6, d7⟩ := mblk_cells hbk
   have HB9 := Hd (below_grown HB2.out hgr (Nat.le_refl _) hs2)
   clear hbk hgr
   go_wp2_with fail
   exact bodyPost_ret (v := .tuple #[methV zeroMR nilM, .int .i64 n]) (by simp [results, Tryz.results16, go_sem, d0, d1, d2, d3, d4, d5, d6, d7, methV]) rfl ⟨HB9.out, zeroMR, nilM, n, rfl, fun h => absurd h HNE.out⟩
 case pos =>
 subst hn
 go_wp2_with fail
 go_loopw [9] (fun i wr => ∃ k : Nat, k ≤ l.length ∧ i = .int .i64 k ∧ Below w2.heap.size w2 wr ∧ Hid (∀ d ∈ l.take k, hasAt c z d = false)) (fun i _ => l.length - (RowKit.intOf i).toNat)
 case atStart => exact ⟨0, by omega, rfl, Below.refl _ _, Hd (by simp)⟩
 case round =>
   obtain ⟨k, hk, rfl, hb, HZ⟩ := hrel
   have HBr := Hd hb
   have HBr2 := Hd (bl_trans HB2.out hb)
   have HZr := Hd (HZ2.out.below hb)
   have hsr := HBr2.out.size
   have i0 : (0 : Int) ≤ (k : Int) := Int.natCast_nonneg _
   have hwr : wrap64 ((k : Int) + 1) = (k : Int) + 1 := IntWalk.wrap64_in _ (by omega)
   by_cases hlk : k < l.length
   · obtain ⟨d, hx⟩ : ∃ c, l[k]? = some c := ⟨_, List.getElem?_eq_getElem hlk⟩
     obtain ⟨b1, off, p, hpa, hlt, hp, hca, d0, d1, d2, d3, d4, d5⟩ := (HC.out.below HBr2.out).cells hx
     have HX := Hd hx
     have HP := Hd hp
     have HCA := Hd hca
     have HCL2 := Hd (HC.out.2.2 k d p hx hp)
     subst hpa
     have hji : (k : Int) < (l.length : Int) := by omega
     clear hx hp hca hb d1 d2 d3 d4
     cases h1 : (d.nm == c) with
     | false =>
       have HZ9 := Hd (take_snoc_any HZ.out HX.out (show hasAt c z d = false by unfold hasAt; rw [h1]; rfl))
       go_wp2_with fail
       go_roundw
       case rel => exact ⟨k + 1, by omega, by simp, HBr.out, HZ9⟩
       case measure => simp [RowKit.intOf]; omega
     | true =>
       by_cases h2 : 0 ≤ z
       · by_cases h3 : z < (d.meths.length : Int)
         · obtain ⟨zn, rfl⟩ : ∃ zn : Nat, z = zn := ⟨z.toNat, by omega⟩
           have hznl : zn < d.meths.length := by omega
           obtain ⟨m, hm⟩ : ∃ m, d.meths[zn]? = some m := ⟨_, List.getElem?_eq_getElem hznl⟩
           obtain ⟨bm, offm, q, hqa, hltm, hq, hma, e0, e1, e2, e3, e4, e5, e6, e7⟩ := HCA.out.2.2.cells hm
           have HHA := Hd (show hasAt c (zn : Int) d = true by unfold hasAt; rw [h1, decide_eq_true h2, decide_eq_true h3]; rfl)
           have HFD := Hd (find_at2 HZ.out HX.out HHA.out)
           have HM := Hd hm
           have HQ := Hd hq
           have hz3 := HZr.out.lt
           rw [hqa] at d5
           clear hm hq hma hqa
           cases hab : m.abst with
           | true =>
             rw [hab] at e3
             clear hab
             go_wp2_with (refine wpList_store_blk (x := .tmp 6) (y := .tmp 52) (ty := 45) (g := w.heap.size) (cells := mArr zeroMR nilM) (by rfl) (by rfl) (by rfl) (by rfl) HZr.out info_meth rfl (mArr_one zeroMR nilM) ?_)
             intro W2 hbk hgr
             obtain ⟨d0, d1, d2, d3, d4, d5, d6, d7⟩ := mblk_cells hbk
             have HB9 := Hd (below_grown HBr2.out hgr (Nat.le_refl _) hsr)
             clear hbk hgr
             go_wp2_with fail
             exact bodyPost_ret (v := .tuple #[methV zeroMR nilM, .int .i64 1]) (by simp [results, Tryz.results16, go_sem, d0, d1, d2, d3, d4, d5, d6, d7, methV]) rfl ⟨HB9.out, zeroMR, nilM, 1, rfl, fun h => absurd h (by decide)⟩
           | false =>
             have HAB := Hd hab
             rw [hab] at e3
             clear hab
             go_wp2_with (refine wpList_store_blk (x := .tmp 6) (y := .tmp 60) (ty := 45) (g := w.heap.size) (cells := #[.string ⟨⟨m.nm⟩⟩, .string ⟨⟨m.ty⟩⟩, .bool m.stat, .bool false, .bool m.priv, .int .i64 m.loc, .slice q.ca m.code.length q.cc, .slice q.ha m.hs.length q.hc]) (by rfl) (by rfl) (by rfl) (by rfl) HZr.out info_meth rfl (by simp [Value.oneCell']) ?_)
             intro W2 hbk0 hgr
             have hbk : Blk W2 w.heap.size 45 (mArr m q) := by unfold mArr; rw [HAB.out]; exact hbk0
             obtain ⟨d0, d1, d2, d3, d4, d5, d6, d7⟩ := mblk_cells hbk
             have hb9 := below_grown HBr2.out hgr (Nat.le_refl _) hsr
             have HB9 := Hd hb9
             have HMA9 := Hd ((HCL2.out.below hb9).2.2.2.2 zn m q HM.out HQ.out)
             clear hbk hbk0 hgr hb9
             go_wp2_with fail
             exact bodyPost_ret (v := .tuple #[methV m q, .int .i64 0]) (by simp [results, Tryz.results16, go_sem, d0, d1, d2, d3, d4, d5, d6, d7, methV]) rfl ⟨HB9.out, m, q, 0, rfl, fun _ => ⟨d, HFD.out, by rw [show ((zn : Int)).toNat = zn by omega]; exact HM.out, HMA9.out⟩⟩
         · have HZ9 := Hd (take_snoc_any HZ.out HX.out (show hasAt c z d = false by unfold hasAt; rw [decide_eq_false h3]; simp))
           go_wp2_with fail
           go_roundw
           case rel => exact ⟨k + 1, by omega, by simp, HBr.out, HZ9⟩
           case measure => simp [RowKit.intOf]; omega
       · have HZ9 := Hd (take_snoc_any HZ.out HX.out (show hasAt c z d = false by unfold hasAt; rw [decide_eq_false h2]; simp))
         go_wp2_with fail
         go_roundw
         case rel => exact ⟨k + 1, by omega, by simp, HBr.out, HZ9⟩
         case measure => simp [RowKit.intOf]; omega
   · obtain rfl : k = l.length := by omega
     have hzr := HZr.out.lt
     clear hb
     go_wp2_with (refine wpList_store_blk (x := .tmp 6) (y := .tmp 61) (ty := 45) (g := w.heap.size) (cells := mArr zeroMR nilM) (by rfl) (by rfl) (by rfl) (by rfl) HZr.out info_meth rfl (mArr_one zeroMR nilM) ?_)
     intro W2 hbk hgr
     obtain ⟨d0, d1, d2, d3, d4, d5, d6, d7⟩ := mblk_cells hbk
     have HB9 := Hd (below_grown HBr2.out hgr (Nat.le_refl _) hsr)
     clear hbk hgr
     go_wp2_with fail
     exact bodyPost_ret (v := .tuple #[methV zeroMR nilM, .int .i64 3]) (by simp [results, Tryz.results16, go_sem, d0, d1, d2, d3, d4, d5, d6, d7, methV]) rfl ⟨HB9.out, zeroMR, nilM, 3, rfl, fun h => absurd h (by decide)⟩
def StrRes (code : List InsR) (w : World) (e : Ending) (w' : World) : Prop := (∃ b : Bool, e = .returned (.bool b) ∧ (b = true → ∀ x ∈ code, jumpsB x.op = false)) ∧ Below w.heap.size w w'
theorem straight_calls (code : List InsR) (a : Option Addr) (cap : Nat) (w : World) (hC : CodeAt w a cap code) (hl : code.length ≤ 100000000) :
   Calls Tryz.prog 17 #[.slice a code.length cap] w (StrRes code w) := by
 have HC := Hd hC
 have HJ := Hd (fun n W => rjumps_calls n W)
 clear hC
 go_enter Tryz.func17, Tryz.ntmps17
 go_wp2_with fail
 go_loopw [3] (fun i wr => ∃ k : Nat, k ≤ code.length ∧ i = .int .i64 k ∧ wr = w ∧ Hid (∀ x ∈ code.take k, jumpsB x.op = false)) (fun i _ => code.length - (RowKit.intOf i).toNat)
 case atStart => exact ⟨0, by omega, rfl, rfl, Hd (by simp)⟩
 case round =>
   obtain ⟨k, hk, rfl, rfl, HZ⟩ := hrel
   have i0 : (0 : Int) ≤ (k : Int) := Int.natCast_nonneg _
   have hwr : wrap64 ((k : Int) + 1) = (k : Int) + 1 := IntWalk.wrap64_in _ (by omega)
   by_cases he : k < code.length
   · have i1 : (k : Int) < code.length := by omega
     obtain ⟨x, hx⟩ : ∃ x, code[k]? = some x := ⟨_, List.getElem?_eq_getElem he⟩
     obtain ⟨b, off, rfl, hlt, c0, c1, c2, c3, c4, c5⟩ := HC.out.cells hx
     have HX := Hd hx
     clear hx
     generalize hj : jumpsB x.op = jb
     have HJB := Hd hj
     clear hj
     go_wp2_with fail
     refine (HJ.out _ _).mono ?_
     rintro e w2 ⟨rfl, rfl⟩
     rw [HJB.out]
     cases jb with
     | true =>
       go_wp2_with fail
       go_ret
       exact ⟨⟨false, rfl, fun h => by cases h⟩, Below.refl _ _⟩
     | false =>
       have HZ2 := Hd (take_all_succ (P := fun y => jumpsB y.op = false) HZ.out HX.out HJB.out)
       go_wp2_with fail
       go_roundw
       case rel => exact ⟨k + 1, by omega, by simp, trivial, HZ2⟩
       case measure => simp [RowKit.intOf]; omega
   · obtain rfl : k = code.length := by omega
     have HA := Hd (show ∀ x ∈ code, jumpsB x.op = false by have := HZ.out; rwa [List.take_length] at this)
     go_wp2_with fail
     go_ret
     exact ⟨⟨true, rfl, fun _ => HA.out⟩, Below.refl _ _⟩
end Go.Proofs.YtddbnboicmaooaaGreatDoor
