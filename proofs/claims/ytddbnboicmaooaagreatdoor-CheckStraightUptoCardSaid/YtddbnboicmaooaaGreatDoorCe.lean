import Derived.Test.YtddbnboicmaooaaGreatDoorCd
namespace Go.Proofs.YtddbnboicmaooaaGreatDoor
set_option maxRecDepth 100000
set_option maxHeartbeats 16000000
set_option linter.unusedVariables false
set_option linter.unusedSimpArgs false
open Go.RowKit Go.Shelf Go.Lib
def hasAt (c : Nm) (z : Int) (d : ClassR) : Bool := d.nm == c && (decide (0 ≤ z) && decide (z < (d.meths.length : Int)))
noncomputable def namErr (l : List ClassR) (c : Nm) (z : Int) : Int :=
 if readErr l ≠ 0 then readErr l else (l.find? (hasAt c z)).elim 3 fun d => (d.meths[z.toNat]?).elim 3 fun m => if m.abst = true then 1 else 0
def NamRes (l : List ClassR) (ps : List CAddr) (c : Nm) (z : Int) (w : World) (e : Ending) (w' : World) : Prop :=
 Below w.heap.size w w' ∧ ((namErr l c z ≠ 0 ∧ e = .returned (.tuple #[.map none, methV zeroMR nilM, errV (namErr l c z)])) ∨
   ∃ b d m q, namErr l c z = 0 ∧ d ∈ l ∧ l.find? (hasAt c z) = some d ∧ d.meths[z.toNat]? = some m ∧ m.abst = false ∧ e = .returned (.tuple #[.map (some b), methV m q, .nilIface]) ∧ WOk w' b l (wcp l ps) ∧ MethAt w' m q)
theorem find_at2 {α : Type} {q : α → Bool} : ∀ {l : List α} {k : Nat} {x : α}, (∀ y ∈ l.take k, q y = false) → l[k]? = some x → q x = true → l.find? q = some x
 | [], k, x, _, h, _ => by simp at h
 | y :: r, 0, x, _, h, h2 => by
   simp only [List.getElem?_cons_zero, Option.some.injEq] at h
   subst h
   simp [h2]
 | y :: r, k + 1, x, h0, h, h2 => by
   have hy := h0 y (by simp)
   rw [List.find?_cons_of_neg (by simp [hy])]
   exact find_at2 (k := k) (fun z hz => h0 z (by simp [hz])) (by simpa using h) h2
theorem find_none2 {α : Type} {q : α → Bool} {l : List α} (h : ∀ y ∈ l, q y = false) : l.find? q = none := by
 rw [List.find?_eq_none]
 intro y hy
 simp [h y hy]
theorem WOk.but {w2 W2 w : World} {b g cap : Nat} {l : List ClassR} {ps : List CAddr} {a : Option Addr} {cs : Array Value} {T : TypeId} (h : WOk w2 b l (wcp l ps)) (hg : w2.grownBy W2 (some g)) (hc : Blk w2 g T cs) (hC : ClassesAt w a cap l ps) (hb : Below w.heap.size w W2) : WOk W2 b l (wcp l ps) := by
 refine ⟨⟨h.at_.1.kept (hg.block b h.at_.1.lt (fun e => ?_)), cls_all hC hb⟩, h.cl, h.good⟩
 obtain ⟨es, clock, h1, _⟩ := h.at_.1
 cases e
 rw [show w2.heap[b]? = some (.cells cs T (0, 0)) from hc] at h1
 simp at h1
theorem named_calls (l : List ClassR) (ps : List CAddr) (a : Option Addr) (cap : Nat) (c : Nm) (z : Int) (w : World) (hC : ClassesAt w a cap l ps) (hF : FormsAt w) (hB : ClsOk l) :
   Calls Tryz.prog 36 #[.slice a l.length cap, .string ⟨⟨c⟩⟩, .int .i64 z] w (NamRes l ps c z w) := by
 have HC := Hd hC
 have HF := Hd hF
 have HBD := Hd hB
 have HB0 := Hd (fun o => bl_alloc (Below.refl w.heap.size w) o)
 have HR := Hd (fun o => read_w l ps a cap (w.alloc o) (hC.below (bl_alloc (Below.refl _ _) _)) (hF.below (bl_alloc (Below.refl _ _) _)) hB)
 clear hC hF hB
 go_enter Tryz.func36, Tryz.ntmps36
 go_wp2_with fail
 refine (HR.out _).mono ?_
 rintro e w2 ⟨hb2, ⟨hne, rfl⟩ | ⟨hz, b, rfl, hw⟩⟩
 · have HB2 := Hd (bl_trans (HB0.out _) hb2)
   have HZ2 := Hd (show Blk w2 w.heap.size 45 (mArr zeroMR nilM) from (blk_new w w.heap.size 45 (mArr zeroMR nilM) rfl).below hb2)
   have hs2 := HB2.out.size
   have hz2 := HZ2.out.lt
   have HE := Hd (show namErr l c z = readErr l by unfold namErr; rw [if_pos hne])
   have HNE := Hd hne
   generalize readErr l = ze at *
   clear hb2 hne
   go_wp2_with (refine wpList_store_blk (x := .tmp 7) (y := .tmp 20) (ty := 45) (g := w.heap.size) (cells := mArr zeroMR nilM) (by rfl) (by rfl) (by rfl) (by rfl) HZ2.out info_meth rfl (mArr_one zeroMR nilM) ?_)
   intro W2 hbk hgr
   obtain ⟨d0, d1, d2, d3, d4, d5, d6, d7⟩ := mblk_cells hbk
   have HB9 := Hd (below_grown HB2.out hgr (Nat.le_refl _) hs2)
   clear hbk hgr
   go_wp2_with fail
   exact bodyPost_ret (v := .tuple #[.map none, methV zeroMR nilM, errV ze]) (by simp [results, Tryz.results36, go_sem, d0, d1, d2, d3, d4, d5, d6, d7, methV]) rfl ⟨HB9.out, Or.inl ⟨by rw [HE.out]; exact HNE.out, by rw [HE.out]⟩⟩
 · have HB2 := Hd (bl_trans (HB0.out _) hb2)
   have HZ2 := Hd (show Blk w2 w.heap.size 45 (mArr zeroMR nilM) from (blk_new w w.heap.size 45 (mArr zeroMR nilM) rfl).below hb2)
   have HW2 := Hd hw
   have HG := Hd hw.good
   have hll : l.length ≤ 10 := hw.good.len
   have HE0 := Hd (show namErr l c z = (l.find? (hasAt c z)).elim 3 fun d => (d.meths[z.toNat]?).elim 3 fun m => if m.abst = true then 1 else 0 by unfold namErr; rw [if_neg (by simp [hz])])
   clear hb2 hw hz
   go_wp2_with fail
   go_loopw [24] (fun i wr => ∃ k : Nat, k ≤ l.length ∧ i = .int .i64 k ∧ Below w2.heap.size w2 wr ∧ Hid (∀ d ∈ l.take k, hasAt c z d = false)) (fun i _ => l.length - (RowKit.intOf i).toNat)
   case atStart => exact ⟨0, by omega, rfl, Below.refl _ _, Hd (by simp)⟩
   case round =>
     obtain ⟨k, hk, rfl, hb, HZ⟩ := hrel
     have HBr := Hd hb
     have HBr2 := Hd (bl_trans HB2.out hb)
     have HZr := Hd (HZ2.out.below hb)
     have hsr := HBr2.out.size
     by_cases hlk : k < l.length
     · obtain ⟨d, hx⟩ : ∃ c, l[k]? = some c := ⟨_, List.getElem?_eq_getElem hlk⟩
       have hcm := List.mem_of_getElem? hx
       obtain ⟨b1, off, p, hpa, hlt, hp, hca, d0, d1, d2, d3, d4, d5⟩ := (HC.out.below HBr2.out).cells hx
       have HKL := Hd hlk
       have hkll : k < 10 := by omega
       have HX := Hd hx
       have HP := Hd hp
       have HCA := Hd hca
       have hml := (HBD.out d hcm).1.meths
       have HCM := Hd hcm
       subst hpa
       have hj0 : (0 : Int) ≤ (k : Int) := Int.natCast_nonneg _
       have hji : (k : Int) < (l.length : Int) := by omega
       obtain ⟨w3, hw3⟩ : ∃ w3, w3 = wr.alloc (.cells #[.string ⟨⟨d.nm⟩⟩, .string ⟨⟨d.sup⟩⟩, .slice p.fa d.faces.length p.fc, .bool d.face, .slice p.ga d.fields.length p.gc, .slice p.ma d.meths.length p.mc] 50) := ⟨_, rfl⟩
       have hb3 : Below wr.heap.size wr w3 := by rw [hw3]; exact bl_alloc (Below.refl _ _) _
       have HD3 := Hd (show DBlk w3 wr.heap.size (d, p) by rw [hw3]; exact dblk_new wr (d, p))
       have HB3 := Hd (bl_trans HBr.out hb3)
       have HB32 := Hd (bl_trans HBr2.out hb3)
       have HCA3 := Hd (HCA.out.below hb3)
       have HZ3 := Hd (HZr.out.below hb3)
       clear hx hp hca hb hcm hb3
       go_upto_region 7 with fail
       rw [← hw3]
       clear hw3 d0 d1 d2 d3 d4 d5
       obtain ⟨c0, c1, c2, c3, c4, c5⟩ := HD3.out.cells
       have c6 := HD3.out.lt
       dsimp only at c0 c1 c2 c3 c4 c5
       have HCL2 := Hd (HC.out.2.2 k d p HX.out HP.out)
       cases h1 : (d.nm == c) with
       | false =>
         have HZ9 := Hd (take_snoc_any HZ.out HX.out (show hasAt c z d = false by unfold hasAt; rw [h1]; rfl))
         go_wp2_with fail
         go_roundw
         case rel => exact ⟨k + 1, by have := HKL.out; omega, by go_num, HB3.out, HZ9⟩
         case measure => have := HKL.out; simp [RowKit.intOf]; omega
       | true =>
         by_cases h2 : 0 ≤ z
         · by_cases h3 : z < (d.meths.length : Int)
           · obtain ⟨zn, rfl⟩ : ∃ zn : Nat, z = zn := ⟨z.toNat, by omega⟩
             have hznl : zn < d.meths.length := by omega
             obtain ⟨m, hm⟩ : ∃ m, d.meths[zn]? = some m := ⟨_, List.getElem?_eq_getElem hznl⟩
             obtain ⟨bm, offm, q, hqa, hltm, hq, hma, e0, e1, e2, e3, e4, e5, e6, e7⟩ := HCA3.out.2.2.cells hm
             have HHA := Hd (show hasAt c (zn : Int) d = true by unfold hasAt; rw [h1, decide_eq_true h2, decide_eq_true h3]; rfl)
             have HFD := Hd (find_at2 HZ.out HX.out HHA.out)
             have HM := Hd hm
             have HQ := Hd hq
             have HE1 := Hd (show namErr l c (zn : Int) = if m.abst = true then 1 else 0 by rw [HE0.out, HFD.out]; simp only [Option.elim_some]; rw [show ((zn : Int)).toNat = zn by omega, HM.out]; rfl)
             have hz3 := HZ3.out.lt
             have hs3 := HB32.out.size
             rw [hqa] at c5
             clear hm hq hma
             cases hab : m.abst with
             | true =>
               have HE2 := Hd (show namErr l c (zn : Int) = 1 by rw [HE1.out, if_pos hab])
               rw [hab] at e3
               clear hab
               go_wp2_with (refine wpList_store_blk (x := .tmp 7) (y := .tmp 49) (ty := 45) (g := w.heap.size) (cells := mArr zeroMR nilM) (by rfl) (by rfl) (by rfl) (by rfl) HZ3.out info_meth rfl (mArr_one zeroMR nilM) ?_)
               intro W2 hbk hgr
               obtain ⟨d0, d1, d2, d3, d4, d5, d6, d7⟩ := mblk_cells hbk
               have HB9 := Hd (below_grown HB32.out hgr (Nat.le_refl _) hs3)
               clear hbk hgr
               go_wp2_with fail
               exact bodyPost_ret (v := .tuple #[.map none, methV zeroMR nilM, errV 1]) (by simp [results, Tryz.results36, go_sem, d0, d1, d2, d3, d4, d5, d6, d7, methV]) rfl ⟨HB9.out, Or.inl ⟨by rw [HE2.out]; omega, by rw [HE2.out]⟩⟩
             | false =>
               have HE2 := Hd (show namErr l c (zn : Int) = 0 by rw [HE1.out, if_neg (by rw [hab]; simp)])
               have HAB := Hd hab
               rw [hab] at e3
               clear hab
               go_wp2_with fail
               refine wp_tail 7 (by kernel_rfl) (by kernel_rfl) ?_
               simp only [List.take_succ_cons, List.take_zero, List.drop_succ_cons, List.drop_zero]
               repeat still_step
               refine wpStill_nil ?_
               refine wpList_store_blk (x := .tmp 7) (y := .tmp 56) (ty := 45) (g := w.heap.size) (cells := #[.string ⟨⟨m.nm⟩⟩, .string ⟨⟨m.ty⟩⟩, .bool m.stat, .bool false, .bool m.priv, .int .i64 m.loc, .slice q.ca m.code.length q.cc, .slice q.ha m.hs.length q.hc]) (by rfl) (by rfl) (by rfl) (by rfl) HZ3.out.drew info_meth rfl (by simp [Value.oneCell']) ?_
               intro W2 hbk0 hgr
               have hbk : Blk W2 w.heap.size 45 (mArr m q) := by unfold mArr; rw [HAB.out]; exact hbk0
               obtain ⟨d0, d1, d2, d3, d4, d5, d6, d7⟩ := mblk_cells hbk
               have hb9 := below_grown HB32.out.drew hgr (Nat.le_refl _) hs3
               have HB9 := Hd hb9
               have HW9 := Hd (WOk.but (HW2.out.below (HB3.out.drew)) hgr HZ3.out.drew HC.out hb9)
               have HMA9 := Hd ((HCL2.out.below hb9).2.2.2.2 zn m q HM.out HQ.out)
               clear hbk hbk0 hgr hb9
               go_wp2_with fail
               exact bodyPost_ret (v := .tuple #[.map (some b), methV m q, .nilIface]) (by simp [results, Tryz.results36, go_sem, d0, d1, d2, d3, d4, d5, d6, d7, methV]) rfl ⟨HB9.out, Or.inr ⟨b, d, m, q, HE2.out, HCM.out, HFD.out, by rw [show ((zn : Int)).toNat = zn by omega]; exact HM.out, HAB.out, rfl, HW9.out, HMA9.out⟩⟩
           · 
             have HZ9 := Hd (take_snoc_any HZ.out HX.out (show hasAt c z d = false by unfold hasAt; rw [decide_eq_false h3]; simp))
             go_wp2_with fail
             go_roundw
             case rel => exact ⟨k + 1, by have := HKL.out; omega, by go_num, HB3.out, HZ9⟩
             case measure => have := HKL.out; simp [RowKit.intOf]; omega
         · 
           have HZ9 := Hd (take_snoc_any HZ.out HX.out (show hasAt c z d = false by unfold hasAt; rw [decide_eq_false h2]; simp))
           go_wp2_with fail
           go_roundw
           case rel => exact ⟨k + 1, by have := HKL.out; omega, by go_num, HB3.out, HZ9⟩
           case measure => have := HKL.out; simp [RowKit.intOf]; omega
     · obtain rfl : k = l.length := by omega
       have HE2 := Hd (show namErr l c z = 3 by rw [HE0.out, find_none2 (by have := HZ.out; rwa [List.take_length] at this)]; rfl)
       have hzr := HZr.out.lt
       clear hb
       go_wp2_with (refine wpList_store_blk (x := .tmp 7) (y := .tmp 58) (ty := 45) (g := w.heap.size) (cells := mArr zeroMR nilM) (by rfl) (by rfl) (by rfl) (by rfl) HZr.out info_meth rfl (mArr_one zeroMR nilM) ?_)
       intro W2 hbk hgr
       obtain ⟨d0, d1, d2, d3, d4, d5, d6, d7⟩ := mblk_cells hbk
       have HB9 := Hd (below_grown HBr2.out hgr (Nat.le_refl _) hsr)
       clear hbk hgr
       go_wp2_with fail
       exact bodyPost_ret (v := .tuple #[.map none, methV zeroMR nilM, errV 3]) (by simp [results, Tryz.results36, go_sem, d0, d1, d2, d3, d4, d5, d6, d7, methV]) rfl ⟨HB9.out, Or.inl ⟨by rw [HE2.out]; omega, by rw [HE2.out]⟩⟩
theorem rowMap : RowT Tryz.prog 60 69 3 56 := RowT.mk' (z := .agg #[.int .i64 0, .slice none 0 0, .slice none 0 0]) Tryz.underlying60 (by kernel_rfl) rfl (by omega)
noncomputable def mtErr (l : List ClassR) (c : Nm) (z : Int) : Int :=
 if namErr l c z ≠ 0 then namErr l c z else (l.find? (hasAt c z)).elim 0 fun d => (d.meths[z.toNat]?).elim 0 fun m => if (lookedF (wl l) c m).isNone = true then 7 else 0
end Go.Proofs.YtddbnboicmaooaaGreatDoor
