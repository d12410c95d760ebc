import Derived.Test.YtddbnboicmaooaaGreatDoorSe
namespace Go.Proofs.YtddbnboicmaooaaGreatDoor
set_option maxRecDepth 100000
set_option maxHeartbeats 16000000
set_option linter.unusedVariables false
set_option linter.unusedSimpArgs false
open Go.RowKit Go.Shelf Go.Lib Go.Sort
noncomputable def heapF (L : List ClassR) (fr : Nm) (x : InsR) (f : FrR) : Option FrR :=
 if x.op = 15 then (if kindErr L (thing x.cl) ≠ 0 then none else if (look L x.cl).elim false (·.face) = true then none else putF f (thing x.cl))
 else if x.op = 16 then (fldF L x.cl x.nm).elim none fun t => putO (takeF L [thing x.cl] f) t
 else if x.op = 17 then (fldF L x.cl x.nm).elim none fun t => takeF L [t, thing x.cl] f
 else if x.op = 18 then (if kindErr L x.ty ≠ 0 then none else putO (takeF L [[73]] f) (91 :: x.ty))
 else if x.op = 19 then (refF f).elim none fun p => if ((p.1 == [78]) || (p.1.head? == some 91)) = true then putF p.2 [73] else none
 else if x.op = 20 then putO (arrF L x.ty f) x.ty
 else if x.op = 21 then (if kindErr L x.ty ≠ 0 then none else (takeF L [x.ty] f).elim none fun g => arrF L x.ty g)
 else if x.op = 22 then (if kindErr L x.ty ≠ 0 then none else (refF f).elim none fun p => putF p.2 x.ty)
 else if x.op = 23 then (if kindErr L x.ty ≠ 0 then none else (refF f).elim none fun p => putF p.2 [73])
 else if x.op = 24 then callF L fr x false f
 else if x.op = 25 then callF L fr x true f
 else some f
theorem arr_kd {L : List ClassR} {t : Nm} {f : FrR} (h : arrF L t f ≠ none) : kindErr L t = 0 := by
 by_cases hk : kindErr L t = 0
 · exact hk
 · exact absurd (arr_bad hk) h
theorem heap_20 (l : List ClassR) (L : List CP) (b c : Nat) (fr gv : Nm) (f : FrR) (ia ib : Int) (ty cl nm : Nm) (w0 w : World) (hW : WOk w0 b l L) (hb : Below w0.heap.size w0 w) (hs : Stp (wl l) w w0.heap.size c b fr gv f) (hl : ty.length ≤ 8388607) :
   Calls Tryz.prog 94 #[.pointer (some ⟨c, 0, none⟩), .agg #[.int .i64 (20), .int .i64 ia, .int .i64 ib, .string ⟨⟨ty⟩⟩, .string ⟨⟨cl⟩⟩, .string ⟨⟨nm⟩⟩]] w (StRes (wl l) (heapF (wl l) fr ⟨20, ia, ib, ty, cl, nm⟩ f) w0.heap.size c b fr gv w0) := by
 obtain ⟨w1, hw1⟩ : ∃ w1, w1 = w.alloc (.cells #[.int .i64 20, .int .i64 ia, .int .i64 ib, .string ⟨⟨ty⟩⟩, .string ⟨⟨cl⟩⟩, .string ⟨⟨nm⟩⟩] 40) := ⟨_, rfl⟩
 have hal : Below w.heap.size w w1 := by rw [hw1]; exact bl_alloc (Below.refl _ _) _
 have HX1 := Hd (show Blk w1 w.heap.size 40 #[.int .i64 20, .int .i64 ia, .int .i64 ib, .string ⟨⟨ty⟩⟩, .string ⟨⟨cl⟩⟩, .string ⟨⟨nm⟩⟩] by rw [hw1]; exact blk_new _ _ _ _ rfl)
 have HG1 := Hd (gb_below (gb_refl w c) hal)
 have HB1 := Hd (hb.trans (hal.mono hb.size))
 have HS1 := Hd (hs.below hal)
 have HW := Hd hW
 have HB := Hd hb
 have HCB := Hd hs.cB
 have hwc : w.heap.size ≠ c := by have := hs.lt; omega
 have HE := Hd (show heapF (wl l) fr ⟨20, ia, ib, ty, cl, nm⟩ f = putO (arrF (wl l) ty f) ty by unfold heapF; simp)
 have e0 := HX1.out.cell 0
 have e3 := HX1.out.cell 3
 have el := HX1.out.lt
 clear hW hb hs hal 
 go_enter Tryz.func94, Tryz.ntmps94
 go_upto_region 1 with fail
 rw [← hw1]
 clear hw1
 go_wp2_with fail
 refine (array_calls_stp l L b c fr gv f ty w0 _ HW.out HB1.out HS1.out (by omega)).mono ?_
 rintro e w2 ⟨hg2, ⟨hn2, rfl⟩ | ⟨f2, hn2, rfl, hs2⟩⟩
 · have HB2 := Hd (gb_to_below HB1.out hg2 HCB.out)
   have HN2 := Hd hn2
   clear hg2 hn2
   go_wp2_with fail
   exact ⟨rfl, HB2.out, Or.inl ⟨by simp [putO, HE.out, HN2.out], rfl⟩⟩
 have HN2 := Hd hn2
 have HS2 := Hd hs2
 have HB2 := Hd (gb_to_below HB1.out hg2 HCB.out)
 have HX2 := Hd (gb_blk hg2 HX1.out hwc)
 clear hg2 hn2 hs2
 clear e0 e3 el
 have e0 := HX2.out.cell 0
 have e3 := HX2.out.cell 3
 have el := HX2.out.lt
 go_wp2_with fail
 refine (put_calls (wl l) b c w0.heap.size fr gv f2 ty w0 _ HB2.out HB2.out.size HS2.out (arr_kd (by rw [HN2.out]; simp))).mono ?_
 rintro e w3 ⟨hb3, ⟨hn3, rfl⟩ | ⟨f3, hn3, rfl, hs3⟩⟩
 · have HB3 := Hd (hb3)
   have HN3 := Hd hn3
   clear hb3 hn3
   go_wp2_with fail
   exact ⟨rfl, HB3.out, Or.inl ⟨by simp [putO, HE.out, HN2.out, HN3.out], rfl⟩⟩
 have HN3 := Hd hn3
 have HS3 := Hd hs3
 have HB3 := Hd hb3
 clear hb3 hn3 hs3
 clear e0 e3 el
 go_wp2_with fail
 go_end0
 exact ⟨HB3.out, Or.inr ⟨_, by simp [putO, HE.out, HN2.out, HN3.out], rfl, HS3.out⟩⟩
theorem heap_18 (l : List ClassR) (L : List CP) (b c : Nat) (fr gv : Nm) (f : FrR) (ia ib : Int) (ty cl nm : Nm) (w0 w : World) (hW : WOk w0 b l L) (hb : Below w0.heap.size w0 w) (hs : Stp (wl l) w w0.heap.size c b fr gv f) (hl : ty.length ≤ 8388607) (h18 : kindErr (wl l) ty = 0 → kindErr (wl l) (91 :: ty) = 0) :
   Calls Tryz.prog 94 #[.pointer (some ⟨c, 0, none⟩), .agg #[.int .i64 (18), .int .i64 ia, .int .i64 ib, .string ⟨⟨ty⟩⟩, .string ⟨⟨cl⟩⟩, .string ⟨⟨nm⟩⟩]] w (StRes (wl l) (heapF (wl l) fr ⟨18, ia, ib, ty, cl, nm⟩ f) w0.heap.size c b fr gv w0) := by
 obtain ⟨w1, hw1⟩ : ∃ w1, w1 = w.alloc (.cells #[.int .i64 18, .int .i64 ia, .int .i64 ib, .string ⟨⟨ty⟩⟩, .string ⟨⟨cl⟩⟩, .string ⟨⟨nm⟩⟩] 40) := ⟨_, rfl⟩
 have hal : Below w.heap.size w w1 := by rw [hw1]; exact bl_alloc (Below.refl _ _) _
 have HX1 := Hd (show Blk w1 w.heap.size 40 #[.int .i64 18, .int .i64 ia, .int .i64 ib, .string ⟨⟨ty⟩⟩, .string ⟨⟨cl⟩⟩, .string ⟨⟨nm⟩⟩] by rw [hw1]; exact blk_new _ _ _ _ rfl)
 have HG1 := Hd (gb_below (gb_refl w c) hal)
 have HB1 := Hd (hb.trans (hal.mono hb.size))
 have HS1 := Hd (hs.below hal)
 have HW := Hd hW
 have HB := Hd hb
 have HCB := Hd hs.cB
 have hwc : w.heap.size ≠ c := by have := hs.lt; omega
 have H18 := Hd h18
 have hlm : (91 :: ty).length ≤ maxLen := by simp [maxLen]; omega
 have HE := Hd (show heapF (wl l) fr ⟨18, ia, ib, ty, cl, nm⟩ f = if kindErr (wl l) ty ≠ 0 then none else putO (takeF (wl l) [[73]] f) (91 :: ty) by unfold heapF; simp)
 have HKN := Hd (known_calls l L b c w0.heap.size fr gv f ty w0 w1 HW.out rfl HB1.out HS1.out (by omega))
 by_cases hkt : kindErr (wl l) ty = 0
 rotate_left
 · rw [if_neg hkt] at HKN
   have HK0 := Hd hkt
   have e0 := HX1.out.cell 0
   have e3 := HX1.out.cell 3
   have el := HX1.out.lt
   clear hW hb hs hal hkt h18
   go_enter Tryz.func94, Tryz.ntmps94
   go_upto_region 1 with fail
   rw [← hw1]
   clear hw1
   go_wp2_with fail
   refine HKN.out.mono ?_
   rintro e w2 ⟨rfl, hb2⟩
   have HB2 := Hd (HB1.out.trans (hb2.mono HB1.out.size))
   clear hb2
   go_wp2_with fail
   exact ⟨rfl, HB2.out, Or.inl ⟨by rw [HE.out, if_pos HK0.out], rfl⟩⟩
 rw [if_pos hkt] at HKN
 have HKT := Hd hkt
 have e0 := HX1.out.cell 0
 have e3 := HX1.out.cell 3
 have el := HX1.out.lt
 clear hW hb hs hal hkt h18
 go_enter Tryz.func94, Tryz.ntmps94
 go_upto_region 1 with fail
 rw [← hw1]
 clear hw1
 go_wp2_with fail
 refine HKN.out.mono ?_
 rintro e w2 ⟨rfl, hb2⟩
 have HB2 := Hd (HB1.out.trans (hb2.mono HB1.out.size))
 have HS2 := Hd (HS1.out.below hb2)
 have HX2 := Hd (HX1.out.below hb2)
 clear hb2
 clear e0 e3 el
 have e0 := HX2.out.cell 0
 have e3 := HX2.out.cell 3
 have el := HX2.out.lt
 go_wp2_with fail
 refine (take1 l L b c fr gv f [73] w0 _ HW.out HB2.out HS2.out (by decide)).mono ?_
 rintro e w3 ⟨hg3, ⟨hn3, rfl⟩ | ⟨f3, hn3, rfl, hs3⟩⟩
 · have HB3 := Hd (gb_to_below HB2.out hg3 HCB.out)
   have HN3 := Hd hn3
   clear hg3 hn3
   go_wp2_with fail
   exact ⟨rfl, HB3.out, Or.inl ⟨by simp [putO, HE.out, HKT.out, HN3.out], rfl⟩⟩
 have HN3 := Hd hn3
 have HS3 := Hd hs3
 have HB3 := Hd (gb_to_below HB2.out hg3 HCB.out)
 have HX3 := Hd (gb_blk hg3 HX2.out hwc)
 clear hg3 hn3 hs3
 clear e0 e3 el
 have e0 := HX3.out.cell 0
 have e3 := HX3.out.cell 3
 have el := HX3.out.lt
 go_wp2_with fail
 refine (put_calls (wl l) b c w0.heap.size fr gv f3 (91 :: ty) w0 _ HB3.out HB3.out.size HS3.out (H18.out HKT.out)).mono ?_
 rintro e w4 ⟨hb4, ⟨hn4, rfl⟩ | ⟨f4, hn4, rfl, hs4⟩⟩
 · have HB4 := Hd (hb4)
   have HN4 := Hd hn4
   clear hb4 hn4
   go_wp2_with fail
   exact ⟨rfl, HB4.out, Or.inl ⟨by simp [putO, HE.out, HKT.out, HN3.out, HN4.out], rfl⟩⟩
 have HN4 := Hd hn4
 have HS4 := Hd hs4
 have HB4 := Hd hb4
 clear hb4 hn4 hs4
 clear e0 e3 el
 go_wp2_with fail
 go_end0
 exact ⟨HB4.out, Or.inr ⟨_, by simp [putO, HE.out, HKT.out, HN3.out, HN4.out], rfl, HS4.out⟩⟩
theorem heap_21 (l : List ClassR) (L : List CP) (b c : Nat) (fr gv : Nm) (f : FrR) (ia ib : Int) (ty cl nm : Nm) (w0 w : World) (hW : WOk w0 b l L) (hb : Below w0.heap.size w0 w) (hs : Stp (wl l) w w0.heap.size c b fr gv f) (hl : ty.length ≤ 8388607) :
   Calls Tryz.prog 94 #[.pointer (some ⟨c, 0, none⟩), .agg #[.int .i64 (21), .int .i64 ia, .int .i64 ib, .string ⟨⟨ty⟩⟩, .string ⟨⟨cl⟩⟩, .string ⟨⟨nm⟩⟩]] w (StRes (wl l) (heapF (wl l) fr ⟨21, ia, ib, ty, cl, nm⟩ f) w0.heap.size c b fr gv w0) := by
 obtain ⟨w1, hw1⟩ : ∃ w1, w1 = w.alloc (.cells #[.int .i64 21, .int .i64 ia, .int .i64 ib, .string ⟨⟨ty⟩⟩, .string ⟨⟨cl⟩⟩, .string ⟨⟨nm⟩⟩] 40) := ⟨_, rfl⟩
 have hal : Below w.heap.size w w1 := by rw [hw1]; exact bl_alloc (Below.refl _ _) _
 have HX1 := Hd (show Blk w1 w.heap.size 40 #[.int .i64 21, .int .i64 ia, .int .i64 ib, .string ⟨⟨ty⟩⟩, .string ⟨⟨cl⟩⟩, .string ⟨⟨nm⟩⟩] by rw [hw1]; exact blk_new _ _ _ _ rfl)
 have HG1 := Hd (gb_below (gb_refl w c) hal)
 have HB1 := Hd (hb.trans (hal.mono hb.size))
 have HS1 := Hd (hs.below hal)
 have HW := Hd hW
 have HB := Hd hb
 have HCB := Hd hs.cB
 have hwc : w.heap.size ≠ c := by have := hs.lt; omega
 have HE := Hd (show heapF (wl l) fr ⟨21, ia, ib, ty, cl, nm⟩ f = if kindErr (wl l) ty ≠ 0 then none else (takeF (wl l) [ty] f).elim none fun g => arrF (wl l) ty g by unfold heapF; simp)
 have HKN := Hd (known_calls l L b c w0.heap.size fr gv f ty w0 w1 HW.out rfl HB1.out HS1.out (by omega))
 by_cases hkt : kindErr (wl l) ty = 0
 rotate_left
 · rw [if_neg hkt] at HKN
   have HK0 := Hd hkt
   have e0 := HX1.out.cell 0
   have e3 := HX1.out.cell 3
   have el := HX1.out.lt
   clear hW hb hs hal hkt 
   go_enter Tryz.func94, Tryz.ntmps94
   go_upto_region 1 with fail
   rw [← hw1]
   clear hw1
   go_wp2_with fail
   refine HKN.out.mono ?_
   rintro e w2 ⟨rfl, hb2⟩
   have HB2 := Hd (HB1.out.trans (hb2.mono HB1.out.size))
   clear hb2
   go_wp2_with fail
   exact ⟨rfl, HB2.out, Or.inl ⟨by rw [HE.out, if_pos HK0.out], rfl⟩⟩
 rw [if_pos hkt] at HKN
 have HKT := Hd hkt
 have e0 := HX1.out.cell 0
 have e3 := HX1.out.cell 3
 have el := HX1.out.lt
 clear hW hb hs hal hkt 
 go_enter Tryz.func94, Tryz.ntmps94
 go_upto_region 1 with fail
 rw [← hw1]
 clear hw1
 go_wp2_with fail
 refine HKN.out.mono ?_
 rintro e w2 ⟨rfl, hb2⟩
 have HB2 := Hd (HB1.out.trans (hb2.mono HB1.out.size))
 have HS2 := Hd (HS1.out.below hb2)
 have HX2 := Hd (HX1.out.below hb2)
 clear hb2
 clear e0 e3 el
 have e0 := HX2.out.cell 0
 have e3 := HX2.out.cell 3
 have el := HX2.out.lt
 go_wp2_with fail
 refine (take1 l L b c fr gv f ty w0 _ HW.out HB2.out HS2.out (by omega)).mono ?_
 rintro e w3 ⟨hg3, ⟨hn3, rfl⟩ | ⟨f3, hn3, rfl, hs3⟩⟩
 · have HB3 := Hd (gb_to_below HB2.out hg3 HCB.out)
   have HN3 := Hd hn3
   clear hg3 hn3
   go_wp2_with fail
   exact ⟨rfl, HB3.out, Or.inl ⟨by simp [putO, HE.out, HKT.out, HN3.out], rfl⟩⟩
 have HN3 := Hd hn3
 have HS3 := Hd hs3
 have HB3 := Hd (gb_to_below HB2.out hg3 HCB.out)
 have HX3 := Hd (gb_blk hg3 HX2.out hwc)
 clear hg3 hn3 hs3
 clear e0 e3 el
 have e0 := HX3.out.cell 0
 have e3 := HX3.out.cell 3
 have el := HX3.out.lt
 go_wp2_with fail
 refine (array_calls_stp l L b c fr gv f3 ty w0 _ HW.out HB3.out HS3.out (by omega)).mono ?_
 rintro e w4 ⟨hg4, ⟨hn4, rfl⟩ | ⟨f4, hn4, rfl, hs4⟩⟩
 · have HB4 := Hd (gb_to_below HB3.out hg4 HCB.out)
   have HN4 := Hd hn4
   clear hg4 hn4
   go_wp2_with fail
   exact ⟨rfl, HB4.out, Or.inl ⟨by simp [putO, HE.out, HKT.out, HN3.out, HN4.out], rfl⟩⟩
 have HN4 := Hd hn4
 have HS4 := Hd hs4
 have HB4 := Hd (gb_to_below HB3.out hg4 HCB.out)
 have HX4 := Hd (gb_blk hg4 HX3.out hwc)
 clear hg4 hn4 hs4
 clear e0 e3 el
 have e0 := HX4.out.cell 0
 have e3 := HX4.out.cell 3
 have el := HX4.out.lt
 go_wp2_with fail
 go_end0
 exact ⟨HB4.out, Or.inr ⟨_, by simp [putO, HE.out, HKT.out, HN3.out, HN4.out], rfl, HS4.out⟩⟩
theorem heap_22 (l : List ClassR) (L : List CP) (b c : Nat) (fr gv : Nm) (f : FrR) (ia ib : Int) (ty cl nm : Nm) (w0 w : World) (hW : WOk w0 b l L) (hb : Below w0.heap.size w0 w) (hs : Stp (wl l) w w0.heap.size c b fr gv f) (hl : ty.length ≤ 8388607) :
   Calls Tryz.prog 94 #[.pointer (some ⟨c, 0, none⟩), .agg #[.int .i64 (22), .int .i64 ia, .int .i64 ib, .string ⟨⟨ty⟩⟩, .string ⟨⟨cl⟩⟩, .string ⟨⟨nm⟩⟩]] w (StRes (wl l) (heapF (wl l) fr ⟨22, ia, ib, ty, cl, nm⟩ f) w0.heap.size c b fr gv w0) := by
 obtain ⟨w1, hw1⟩ : ∃ w1, w1 = w.alloc (.cells #[.int .i64 22, .int .i64 ia, .int .i64 ib, .string ⟨⟨ty⟩⟩, .string ⟨⟨cl⟩⟩, .string ⟨⟨nm⟩⟩] 40) := ⟨_, rfl⟩
 have hal : Below w.heap.size w w1 := by rw [hw1]; exact bl_alloc (Below.refl _ _) _
 have HX1 := Hd (show Blk w1 w.heap.size 40 #[.int .i64 22, .int .i64 ia, .int .i64 ib, .string ⟨⟨ty⟩⟩, .string ⟨⟨cl⟩⟩, .string ⟨⟨nm⟩⟩] by rw [hw1]; exact blk_new _ _ _ _ rfl)
 have HG1 := Hd (gb_below (gb_refl w c) hal)
 have HB1 := Hd (hb.trans (hal.mono hb.size))
 have HS1 := Hd (hs.below hal)
 have HW := Hd hW
 have HB := Hd hb
 have HCB := Hd hs.cB
 have hwc : w.heap.size ≠ c := by have := hs.lt; omega
 have HE := Hd (show heapF (wl l) fr ⟨22, ia, ib, ty, cl, nm⟩ f = if kindErr (wl l) ty ≠ 0 then none else (refF f).elim none fun p => putF p.2 ty by unfold heapF; simp)
 have HKN := Hd (known_calls l L b c w0.heap.size fr gv f ty w0 w1 HW.out rfl HB1.out HS1.out (by omega))
 by_cases hkt : kindErr (wl l) ty = 0
 rotate_left
 · rw [if_neg hkt] at HKN
   have HK0 := Hd hkt
   have e0 := HX1.out.cell 0
   have e3 := HX1.out.cell 3
   have el := HX1.out.lt
   clear hW hb hs hal hkt 
   go_enter Tryz.func94, Tryz.ntmps94
   go_upto_region 1 with fail
   rw [← hw1]
   clear hw1
   go_wp2_with fail
   refine HKN.out.mono ?_
   rintro e w2 ⟨rfl, hb2⟩
   have HB2 := Hd (HB1.out.trans (hb2.mono HB1.out.size))
   clear hb2
   go_wp2_with fail
   exact ⟨rfl, HB2.out, Or.inl ⟨by rw [HE.out, if_pos HK0.out], rfl⟩⟩
 rw [if_pos hkt] at HKN
 have HKT := Hd hkt
 have e0 := HX1.out.cell 0
 have e3 := HX1.out.cell 3
 have el := HX1.out.lt
 clear hW hb hs hal hkt 
 go_enter Tryz.func94, Tryz.ntmps94
 go_upto_region 1 with fail
 rw [← hw1]
 clear hw1
 go_wp2_with fail
 refine HKN.out.mono ?_
 rintro e w2 ⟨rfl, hb2⟩
 have HB2 := Hd (HB1.out.trans (hb2.mono HB1.out.size))
 have HS2 := Hd (HS1.out.below hb2)
 have HX2 := Hd (HX1.out.below hb2)
 clear hb2
 clear e0 e3 el
 have e0 := HX2.out.cell 0
 have e3 := HX2.out.cell 3
 have el := HX2.out.lt
 go_wp2_with fail
 refine (ref_calls (wl l) b c w0.heap.size fr gv f _ HS2.out).mono ?_
 rintro e w3 ⟨hg3, ⟨hn3, rfl⟩ | ⟨k3, f3, hn3, rfl, hs3⟩⟩
 · have HB3 := Hd (gb_to_below HB2.out hg3 HCB.out)
   have HN3 := Hd hn3
   clear hg3 hn3
   go_wp2_with fail
   exact ⟨rfl, HB3.out, Or.inl ⟨by simp [putO, HE.out, HKT.out, HN3.out], rfl⟩⟩
 have HN3 := Hd hn3
 have HS3 := Hd hs3
 have HB3 := Hd (gb_to_below HB2.out hg3 HCB.out)
 have HX3 := Hd (gb_blk hg3 HX2.out hwc)
 clear hg3 hn3 hs3
 clear e0 e3 el
 have e0 := HX3.out.cell 0
 have e3 := HX3.out.cell 3
 have el := HX3.out.lt
 go_wp2_with fail
 refine (put_calls (wl l) b c w0.heap.size fr gv f3 ty w0 _ HB3.out HB3.out.size HS3.out HKT.out).mono ?_
 rintro e w4 ⟨hb4, ⟨hn4, rfl⟩ | ⟨f4, hn4, rfl, hs4⟩⟩
 · have HB4 := Hd (hb4)
   have HN4 := Hd hn4
   clear hb4 hn4
   go_wp2_with fail
   exact ⟨rfl, HB4.out, Or.inl ⟨by simp [putO, HE.out, HKT.out, HN3.out, HN4.out], rfl⟩⟩
 have HN4 := Hd hn4
 have HS4 := Hd hs4
 have HB4 := Hd hb4
 clear hb4 hn4 hs4
 clear e0 e3 el
 go_wp2_with fail
 go_end0
 exact ⟨HB4.out, Or.inr ⟨_, by simp [putO, HE.out, HKT.out, HN3.out, HN4.out], rfl, HS4.out⟩⟩
theorem heap_24 (l : List ClassR) (L : List CP) (b c : Nat) (fr gv : Nm) (f : FrR) (ia ib : Int) (ty cl nm : Nm) (w0 w : World) (hW : WOk w0 b l L) (hb : Below w0.heap.size w0 w) (hs : Stp (wl l) w w0.heap.size c b fr gv f) (hcl : cl.length ≤ 20) (hfr : fr.length ≤ 1048576) (hty : ty.length ≤ 1048576) (hmo : ∃ A g, MethodOk ty A g) :
   Calls Tryz.prog 94 #[.pointer (some ⟨c, 0, none⟩), .agg #[.int .i64 (24), .int .i64 ia, .int .i64 ib, .string ⟨⟨ty⟩⟩, .string ⟨⟨cl⟩⟩, .string ⟨⟨nm⟩⟩]] w (StRes (wl l) (heapF (wl l) fr ⟨24, ia, ib, ty, cl, nm⟩ f) w0.heap.size c b fr gv w0) := by
 obtain ⟨w1, hw1⟩ : ∃ w1, w1 = w.alloc (.cells #[.int .i64 24, .int .i64 ia, .int .i64 ib, .string ⟨⟨ty⟩⟩, .string ⟨⟨cl⟩⟩, .string ⟨⟨nm⟩⟩] 40) := ⟨_, rfl⟩
 have hal : Below w.heap.size w w1 := by rw [hw1]; exact bl_alloc (Below.refl _ _) _
 have HX1 := Hd (show Blk w1 w.heap.size 40 #[.int .i64 24, .int .i64 ia, .int .i64 ib, .string ⟨⟨ty⟩⟩, .string ⟨⟨cl⟩⟩, .string ⟨⟨nm⟩⟩] by rw [hw1]; exact blk_new _ _ _ _ rfl)
 have HG1 := Hd (gb_below (gb_refl w c) hal)
 have HB1 := Hd (hb.trans (hal.mono hb.size))
 have HS1 := Hd (hs.below hal)
 have HW := Hd hW
 have HB := Hd hb
 have HCB := Hd hs.cB
 have hwc : w.heap.size ≠ c := by have := hs.lt; omega
 have HE := Hd (show heapF (wl l) fr ⟨24, ia, ib, ty, cl, nm⟩ f = callF (wl l) fr ⟨24, ia, ib, ty, cl, nm⟩ false f by unfold heapF; simp)
 have HCC := Hd (fun W (hw : Below w0.heap.size w0 W) (hs : Stp (wl l) W w0.heap.size c b fr gv f) => show Calls Tryz.prog 164 #[.pointer (some ⟨c, 0, none⟩), .agg #[.int .i64 24, .int .i64 ia, .int .i64 ib, .string ⟨⟨ty⟩⟩, .string ⟨⟨cl⟩⟩, .string ⟨⟨nm⟩⟩], .bool false] W _ from call_calls_stp l L b c fr gv f ⟨24, ia, ib, ty, cl, nm⟩ false w0 W hW hw hs hcl hfr hty hmo)
 have e0 := HX1.out.cell 0
 have e1 := HX1.out.cell 1
 have e2 := HX1.out.cell 2
 have e3 := HX1.out.cell 3
 have e4 := HX1.out.cell 4
 have e5 := HX1.out.cell 5
 have el := HX1.out.lt
 clear hW hb hs hal hcl hfr hty hmo
 go_enter Tryz.func94, Tryz.ntmps94
 go_upto_region 1 with fail
 rw [← hw1]
 clear hw1
 go_wp2_with fail
 refine (HCC.out _ HB1.out HS1.out).mono ?_
 rintro e w2 ⟨hb2, ⟨hn2, rfl⟩ | ⟨f2, hn2, rfl, hs2⟩⟩
 · have HB2 := Hd (hb2)
   have HN2 := Hd hn2
   clear hb2 hn2
   go_wp2_with fail
   exact ⟨rfl, HB2.out, Or.inl ⟨by simp [putO, HE.out, HN2.out], rfl⟩⟩
 have HN2 := Hd hn2
 have HS2 := Hd hs2
 have HB2 := Hd hb2
 clear hb2 hn2 hs2
 clear e0 e1 e2 e3 e4 e5 el
 go_wp2_with fail
 go_end0
 exact ⟨HB2.out, Or.inr ⟨_, by simp [putO, HE.out, HN2.out], rfl, HS2.out⟩⟩
theorem heap_25 (l : List ClassR) (L : List CP) (b c : Nat) (fr gv : Nm) (f : FrR) (ia ib : Int) (ty cl nm : Nm) (w0 w : World) (hW : WOk w0 b l L) (hb : Below w0.heap.size w0 w) (hs : Stp (wl l) w w0.heap.size c b fr gv f) (hcl : cl.length ≤ 20) (hfr : fr.length ≤ 1048576) (hty : ty.length ≤ 1048576) (hmo : ∃ A g, MethodOk ty A g) :
   Calls Tryz.prog 94 #[.pointer (some ⟨c, 0, none⟩), .agg #[.int .i64 (25), .int .i64 ia, .int .i64 ib, .string ⟨⟨ty⟩⟩, .string ⟨⟨cl⟩⟩, .string ⟨⟨nm⟩⟩]] w (StRes (wl l) (heapF (wl l) fr ⟨25, ia, ib, ty, cl, nm⟩ f) w0.heap.size c b fr gv w0) := by
 obtain ⟨w1, hw1⟩ : ∃ w1, w1 = w.alloc (.cells #[.int .i64 25, .int .i64 ia, .int .i64 ib, .string ⟨⟨ty⟩⟩, .string ⟨⟨cl⟩⟩, .string ⟨⟨nm⟩⟩] 40) := ⟨_, rfl⟩
 have hal : Below w.heap.size w w1 := by rw [hw1]; exact bl_alloc (Below.refl _ _) _
 have HX1 := Hd (show Blk w1 w.heap.size 40 #[.int .i64 25, .int .i64 ia, .int .i64 ib, .string ⟨⟨ty⟩⟩, .string ⟨⟨cl⟩⟩, .string ⟨⟨nm⟩⟩] by rw [hw1]; exact blk_new _ _ _ _ rfl)
 have HG1 := Hd (gb_below (gb_refl w c) hal)
 have HB1 := Hd (hb.trans (hal.mono hb.size))
 have HS1 := Hd (hs.below hal)
 have HW := Hd hW
 have HB := Hd hb
 have HCB := Hd hs.cB
 have hwc : w.heap.size ≠ c := by have := hs.lt; omega
 have HE := Hd (show heapF (wl l) fr ⟨25, ia, ib, ty, cl, nm⟩ f = callF (wl l) fr ⟨25, ia, ib, ty, cl, nm⟩ true f by unfold heapF; simp)
 have HCC := Hd (fun W (hw : Below w0.heap.size w0 W) (hs : Stp (wl l) W w0.heap.size c b fr gv f) => show Calls Tryz.prog 164 #[.pointer (some ⟨c, 0, none⟩), .agg #[.int .i64 25, .int .i64 ia, .int .i64 ib, .string ⟨⟨ty⟩⟩, .string ⟨⟨cl⟩⟩, .string ⟨⟨nm⟩⟩], .bool true] W _ from call_calls_stp l L b c fr gv f ⟨25, ia, ib, ty, cl, nm⟩ true w0 W hW hw hs hcl hfr hty hmo)
 have e0 := HX1.out.cell 0
 have e1 := HX1.out.cell 1
 have e2 := HX1.out.cell 2
 have e3 := HX1.out.cell 3
 have e4 := HX1.out.cell 4
 have e5 := HX1.out.cell 5
 have el := HX1.out.lt
 clear hW hb hs hal hcl hfr hty hmo
 go_enter Tryz.func94, Tryz.ntmps94
 go_upto_region 1 with fail
 rw [← hw1]
 clear hw1
 go_wp2_with fail
 refine (HCC.out _ HB1.out HS1.out).mono ?_
 rintro e w2 ⟨hb2, ⟨hn2, rfl⟩ | ⟨f2, hn2, rfl, hs2⟩⟩
 · have HB2 := Hd (hb2)
   have HN2 := Hd hn2
   clear hb2 hn2
   go_wp2_with fail
   exact ⟨rfl, HB2.out, Or.inl ⟨by simp [putO, HE.out, HN2.out], rfl⟩⟩
 have HN2 := Hd hn2
 have HS2 := Hd hs2
 have HB2 := Hd hb2
 clear hb2 hn2 hs2
 clear e0 e1 e2 e3 e4 e5 el
 go_wp2_with fail
 go_end0
 exact ⟨HB2.out, Or.inr ⟨_, by simp [putO, HE.out, HN2.out], rfl, HS2.out⟩⟩
theorem heap_skip (l : List ClassR) (L : List CP) (b c : Nat) (fr gv : Nm) (f : FrR) (op ia ib : Int) (ty cl nm : Nm) (w0 w : World) (hW : WOk w0 b l L) (hb : Below w0.heap.size w0 w) (hs : Stp (wl l) w w0.heap.size c b fr gv f) (h15 : op ≠ 15) (h16 : op ≠ 16) (h17 : op ≠ 17) (h18 : op ≠ 18) (h19 : op ≠ 19) (h20 : op ≠ 20) (h21 : op ≠ 21) (h22 : op ≠ 22) (h23 : op ≠ 23) (h24 : op ≠ 24) (h25 : op ≠ 25) :
   Calls Tryz.prog 94 #[.pointer (some ⟨c, 0, none⟩), .agg #[.int .i64 op, .int .i64 ia, .int .i64 ib, .string ⟨⟨ty⟩⟩, .string ⟨⟨cl⟩⟩, .string ⟨⟨nm⟩⟩]] w (StRes (wl l) (heapF (wl l) fr ⟨op, ia, ib, ty, cl, nm⟩ f) w0.heap.size c b fr gv w0) := by
 obtain ⟨w1, hw1⟩ : ∃ w1, w1 = w.alloc (.cells #[.int .i64 op, .int .i64 ia, .int .i64 ib, .string ⟨⟨ty⟩⟩, .string ⟨⟨cl⟩⟩, .string ⟨⟨nm⟩⟩] 40) := ⟨_, rfl⟩
 have hal : Below w.heap.size w w1 := by rw [hw1]; exact bl_alloc (Below.refl _ _) _
 have HX1 := Hd (show Blk w1 w.heap.size 40 #[.int .i64 op, .int .i64 ia, .int .i64 ib, .string ⟨⟨ty⟩⟩, .string ⟨⟨cl⟩⟩, .string ⟨⟨nm⟩⟩] by rw [hw1]; exact blk_new _ _ _ _ rfl)
 have HG1 := Hd (gb_below (gb_refl w c) hal)
 have HB1 := Hd (hb.trans (hal.mono hb.size))
 have HS1 := Hd (hs.below hal)
 have HW := Hd hW
 have HB := Hd hb
 have HCB := Hd hs.cB
 have hwc : w.heap.size ≠ c := by have := hs.lt; omega
 have HE := Hd (show heapF (wl l) fr ⟨op, ia, ib, ty, cl, nm⟩ f = some f by unfold heapF; simp [h15, h16, h17, h18, h19, h20, h21, h22, h23, h24, h25])
 have q15 : (op == 15) = false := by rw [beq_eq_false_iff_ne]; exact h15
 have q16 : (op == 16) = false := by rw [beq_eq_false_iff_ne]; exact h16
 have q17 : (op == 17) = false := by rw [beq_eq_false_iff_ne]; exact h17
 have q18 : (op == 18) = false := by rw [beq_eq_false_iff_ne]; exact h18
 have q19 : (op == 19) = false := by rw [beq_eq_false_iff_ne]; exact h19
 have q20 : (op == 20) = false := by rw [beq_eq_false_iff_ne]; exact h20
 have q21 : (op == 21) = false := by rw [beq_eq_false_iff_ne]; exact h21
 have q22 : (op == 22) = false := by rw [beq_eq_false_iff_ne]; exact h22
 have q23 : (op == 23) = false := by rw [beq_eq_false_iff_ne]; exact h23
 have q24 : (op == 24) = false := by rw [beq_eq_false_iff_ne]; exact h24
 have q25 : (op == 25) = false := by rw [beq_eq_false_iff_ne]; exact h25
 have e0 := HX1.out.cell 0
 have el := HX1.out.lt
 clear hW hb hs hal h15 h16 h17 h18 h19 h20 h21 h22 h23 h24 h25
 go_enter Tryz.func94, Tryz.ntmps94
 go_upto_region 1 with fail
 rw [← hw1]
 clear hw1
 go_wp2_with fail
 go_end0
 exact ⟨HB1.out, Or.inr ⟨_, HE.out, rfl, HS1.out⟩⟩
theorem fld_kd {L : List ClassR} {c n t : Nm} (h : fldF L c n = some t) : kindErr L t = 0 ∧ kindErr L (thing c) = 0 := by
 by_cases h0 : kindErr L (thing c) = 0
 · refine ⟨?_, h0⟩
   cases hf : fieldOf L c n with
   | none => rw [fld_none hf] at h; cases h
   | some p =>
     obtain ⟨x, fd⟩ := p
     rw [fld_some h0 hf] at h
     split at h
     · cases h
     · rename_i h2
       simp only [Option.some.injEq] at h
       rw [← h]
       exact Classical.not_not.1 h2
 · rw [fld_bad h0] at h; cases h
theorem kd_len {L : List ClassR} {t : Nm} (h : kindErr L t = 0) : t.length ≤ 8388608 := by
 obtain ⟨k, hk, rfl⟩ := kind_zero.1 h
 cases k with
 | nul => simp [Kd.text]
 | top => simp [Kd.text]
 | ty d b =>
   have h1 := hk.1
   cases b with
   | int => simp [Kd.text, Bse.text]; omega
   | long => simp [Kd.text, Bse.text]; omega
   | cls n => have := (name_len hk.2.1).2; simp [Kd.text, Bse.text]; omega
theorem field_go (l : List ClassR) (L : List CP) (b c : Nat) (fr gv : Nm) (f : FrR) (op ia ib : Int) (ty cl nm : Nm) (w0 w : World) (hW : WOk w0 b l L) (hb : Below w0.heap.size w0 w) (hs : Stp (wl l) w w0.heap.size c b fr gv f) (hcl : cl.length ≤ 20) :
   Calls Tryz.prog 162 #[.pointer (some ⟨c, 0, none⟩), .agg #[.int .i64 op, .int .i64 ia, .int .i64 ib, .string ⟨⟨ty⟩⟩, .string ⟨⟨cl⟩⟩, .string ⟨⟨nm⟩⟩]] w fun e w' => w.grownBy w' (some c) ∧ ((fldF (wl l) cl nm = none ∧ e = .panicked unfitP) ∨ ∃ t, fldF (wl l) cl nm = some t ∧ e = .returned (.string ⟨⟨t⟩⟩) ∧ Stp (wl l) w' w0.heap.size c b fr gv f) := by
 refine (field_calls_stp l L b c fr gv f ⟨op, ia, ib, ty, cl, nm⟩ w0 w hW hb hs hcl).mono ?_
 rintro e w' ⟨hg, h | ⟨t, h1, h2, _, h3⟩⟩
 · exact ⟨hg, Or.inl h⟩
 · exact ⟨hg, Or.inr ⟨t, h1, h2, h3⟩⟩
theorem Stp.setBox {L : List ClassR} {w : World} {B c b g : Nat} {fr gv : Nm} {f : FrR} {cs : Array Value} (h : Stp L w B c b fr gv f) (hb : Blk w g 40 cs) (hg : g ≠ c) (j : Nat) (u : Value) : Stp L (w.setCell ⟨g, j, none⟩ u) B c b fr gv f := by
 obtain ⟨la, lc, sa, sc, h⟩ := h
 have ne : ∀ {v : Value} {n : Nat} {xs : List Value}, w.ownsRow B 9 1 v n xs → v.ownBlock ≠ some g := fun {v n xs} ho hv => by
   rcases ho.2 with ⟨rfl, _⟩ | ⟨g2, _, _, rfl, _, hg2, _⟩
   · cases hv
   · simp only [Value.ownBlock, Option.some.injEq] at hv
     subst hv
     rw [show w.heap[g2]? = some (.cells _ _ (0, 0)) from hb] at hg2
     simp at hg2
 exact ⟨la, lc, sa, sc, gb_blk (gb_set (gb_refl w g) j u) h.blk (fun e => hg e.symm), own_set h.lo (ne h.lo) u, own_set h.so (ne h.so) u, h.ap, h.cB, h.kok⟩
theorem heap_16 (l : List ClassR) (L : List CP) (b c : Nat) (fr gv : Nm) (f : FrR) (ia ib : Int) (ty cl nm : Nm) (w0 w : World) (hW : WOk w0 b l L) (hb : Below w0.heap.size w0 w) (hs : Stp (wl l) w w0.heap.size c b fr gv f) (hcl : cl.length ≤ 20) :
   Calls Tryz.prog 94 #[.pointer (some ⟨c, 0, none⟩), .agg #[.int .i64 (16), .int .i64 ia, .int .i64 ib, .string ⟨⟨ty⟩⟩, .string ⟨⟨cl⟩⟩, .string ⟨⟨nm⟩⟩]] w (StRes (wl l) (heapF (wl l) fr ⟨16, ia, ib, ty, cl, nm⟩ f) w0.heap.size c b fr gv w0) := by
 obtain ⟨w1, hw1⟩ : ∃ w1, w1 = w.alloc (.cells #[.int .i64 16, .int .i64 ia, .int .i64 ib, .string ⟨⟨ty⟩⟩, .string ⟨⟨cl⟩⟩, .string ⟨⟨nm⟩⟩] 40) := ⟨_, rfl⟩
 have hal : Below w.heap.size w w1 := by rw [hw1]; exact bl_alloc (Below.refl _ _) _
 have HX1 := Hd (show Blk w1 w.heap.size 40 #[.int .i64 16, .int .i64 ia, .int .i64 ib, .string ⟨⟨ty⟩⟩, .string ⟨⟨cl⟩⟩, .string ⟨⟨nm⟩⟩] by rw [hw1]; exact blk_new _ _ _ _ rfl)
 have HG1 := Hd (gb_below (gb_refl w c) hal)
 have HB1 := Hd (hb.trans (hal.mono hb.size))
 have HS1 := Hd (hs.below hal)
 have HW := Hd hW
 have HB := Hd hb
 have HCB := Hd hs.cB
 have hwc : w.heap.size ≠ c := by have := hs.lt; omega
 have HTH := Hd (fun w => thing_calls cl (by omega) w)
 have htl : (thing cl).length ≤ 8388608 := by simp [thing]; omega
 have HE := Hd (show heapF (wl l) fr ⟨16, ia, ib, ty, cl, nm⟩ f = (fldF (wl l) cl nm).elim none fun t => putO (takeF (wl l) [thing cl] f) t by unfold heapF; simp)
 have e0 := HX1.out.cell 0
 have e1 := HX1.out.cell 1
 have e2 := HX1.out.cell 2
 have e3 := HX1.out.cell 3
 have e4 := HX1.out.cell 4
 have e5 := HX1.out.cell 5
 have el := HX1.out.lt
 clear hW hb hs hal 
 go_enter Tryz.func94, Tryz.ntmps94
 go_upto_region 1 with fail
 rw [← hw1]
 clear hw1
 go_wp2_with fail
 refine (field_go l L b c fr gv f 16 ia ib ty cl nm w0 _ HW.out HB1.out HS1.out hcl).mono ?_
 rintro e w2 ⟨hg2, ⟨hn2, rfl⟩ | ⟨k2, hn2, rfl, hs2⟩⟩
 · have HB2 := Hd (gb_to_below HB1.out hg2 HCB.out)
   have HN2 := Hd hn2
   clear hg2 hn2
   go_wp2_with fail
   exact ⟨rfl, HB2.out, Or.inl ⟨by simp [putO, HE.out, HN2.out], rfl⟩⟩
 have HN2 := Hd hn2
 have HS2 := Hd hs2
 have HB2 := Hd (gb_to_below HB1.out hg2 HCB.out)
 have HX2 := Hd (gb_blk hg2 HX1.out hwc)
 clear hg2 hn2 hs2
 clear e0 e1 e2 e3 e4 e5 el
 have e0 := HX2.out.cell 0
 have e1 := HX2.out.cell 1
 have e2 := HX2.out.cell 2
 have e3 := HX2.out.cell 3
 have e4 := HX2.out.cell 4
 have e5 := HX2.out.cell 5
 have el := HX2.out.lt
 go_wp2_with fail
 refine (HTH.out _).mono ?_
 rintro e wo ⟨rfl, rfl⟩
 go_wp2_with fail
 refine (take1 l L b c fr gv f (thing cl) w0 _ HW.out HB2.out HS2.out htl).mono ?_
 rintro e w3 ⟨hg3, ⟨hn3, rfl⟩ | ⟨f3, hn3, rfl, hs3⟩⟩
 · have HB3 := Hd (gb_to_below HB2.out hg3 HCB.out)
   have HN3 := Hd hn3
   clear hg3 hn3
   go_wp2_with fail
   exact ⟨rfl, HB3.out, Or.inl ⟨by simp [putO, HE.out, HN2.out, HN3.out], rfl⟩⟩
 have HN3 := Hd hn3
 have HS3 := Hd hs3
 have HB3 := Hd (gb_to_below HB2.out hg3 HCB.out)
 have HX3 := Hd (gb_blk hg3 HX2.out hwc)
 clear hg3 hn3 hs3
 clear e0 e1 e2 e3 e4 e5 el
 have e0 := HX3.out.cell 0
 have e1 := HX3.out.cell 1
 have e2 := HX3.out.cell 2
 have e3 := HX3.out.cell 3
 have e4 := HX3.out.cell 4
 have e5 := HX3.out.cell 5
 have el := HX3.out.lt
 go_wp2_with fail
 refine (put_calls (wl l) b c w0.heap.size fr gv f3 k2 w0 _ HB3.out HB3.out.size HS3.out (fld_kd HN2.out).1).mono ?_
 rintro e w4 ⟨hb4, ⟨hn4, rfl⟩ | ⟨f4, hn4, rfl, hs4⟩⟩
 · have HB4 := Hd (hb4)
   have HN4 := Hd hn4
   clear hb4 hn4
   go_wp2_with fail
   exact ⟨rfl, HB4.out, Or.inl ⟨by simp [putO, HE.out, HN2.out, HN3.out, HN4.out], rfl⟩⟩
 have HN4 := Hd hn4
 have HS4 := Hd hs4
 have HB4 := Hd hb4
 clear hb4 hn4 hs4
 clear e0 e1 e2 e3 e4 e5 el
 go_wp2_with fail
 go_end0
 exact ⟨HB4.out, Or.inr ⟨_, by simp [putO, HE.out, HN2.out, HN3.out, HN4.out], rfl, HS4.out⟩⟩
theorem heap_19 (l : List ClassR) (L : List CP) (b c : Nat) (fr gv : Nm) (f : FrR) (ia ib : Int) (ty cl nm : Nm) (w0 w : World) (hW : WOk w0 b l L) (hb : Below w0.heap.size w0 w) (hs : Stp (wl l) w w0.heap.size c b fr gv f) :
   Calls Tryz.prog 94 #[.pointer (some ⟨c, 0, none⟩), .agg #[.int .i64 (19), .int .i64 ia, .int .i64 ib, .string ⟨⟨ty⟩⟩, .string ⟨⟨cl⟩⟩, .string ⟨⟨nm⟩⟩]] w (StRes (wl l) (heapF (wl l) fr ⟨19, ia, ib, ty, cl, nm⟩ f) w0.heap.size c b fr gv w0) := by
 obtain ⟨w1, hw1⟩ : ∃ w1, w1 = w.alloc (.cells #[.int .i64 19, .int .i64 ia, .int .i64 ib, .string ⟨⟨ty⟩⟩, .string ⟨⟨cl⟩⟩, .string ⟨⟨nm⟩⟩] 40) := ⟨_, rfl⟩
 have hal : Below w.heap.size w w1 := by rw [hw1]; exact bl_alloc (Below.refl _ _) _
 have HX1 := Hd (show Blk w1 w.heap.size 40 #[.int .i64 19, .int .i64 ia, .int .i64 ib, .string ⟨⟨ty⟩⟩, .string ⟨⟨cl⟩⟩, .string ⟨⟨nm⟩⟩] by rw [hw1]; exact blk_new _ _ _ _ rfl)
 have HG1 := Hd (gb_below (gb_refl w c) hal)
 have HB1 := Hd (hb.trans (hal.mono hb.size))
 have HS1 := Hd (hs.below hal)
 have HW := Hd hW
 have HB := Hd hb
 have HCB := Hd hs.cB
 have hwc : w.heap.size ≠ c := by have := hs.lt; omega
 have HE := Hd (show heapF (wl l) fr ⟨19, ia, ib, ty, cl, nm⟩ f = (refF f).elim none fun p => if ((p.1 == [78]) || (p.1.head? == some 91)) = true then putF p.2 [73] else none by unfold heapF; simp)
 have HPR := Hd (fun k w => hasPre_one k 91 w)
 have e0 := HX1.out.cell 0
 have el := HX1.out.lt
 clear hW hb hs hal 
 go_enter Tryz.func94, Tryz.ntmps94
 go_upto_region 1 with fail
 rw [← hw1]
 clear hw1
 go_wp2_with fail
 refine (ref_calls (wl l) b c w0.heap.size fr gv f _ HS1.out).mono ?_
 rintro e w2 ⟨hg2, ⟨hn2, rfl⟩ | ⟨k2, f2, hn2, rfl, hs2⟩⟩
 · have HB2 := Hd (gb_to_below HB1.out hg2 HCB.out)
   have HN2 := Hd hn2
   clear hg2 hn2
   go_wp2_with fail
   exact ⟨rfl, HB2.out, Or.inl ⟨by simp [putO, HE.out, HN2.out], rfl⟩⟩
 have HN2 := Hd hn2
 have HS2 := Hd hs2
 have HB2 := Hd (gb_to_below HB1.out hg2 HCB.out)
 have HX2 := Hd (gb_blk hg2 HX1.out hwc)
 clear hg2 hn2 hs2
 clear e0 el
 have e0 := HX2.out.cell 0
 have el := HX2.out.lt
 by_cases hk78 : k2 = [78]
 · subst hk78
   have HE2 := Hd (show heapF (wl l) fr ⟨19, ia, ib, ty, cl, nm⟩ f = putF f2 [73] by rw [HE.out, HN2.out]; rfl)
   go_wp2_with fail
   refine (need_true _).mono ?_
   rintro e wn ⟨rfl, rfl⟩
   go_wp2_with fail
   refine (put_calls (wl l) b c w0.heap.size fr gv f2 [73] w0 _ HB2.out HB2.out.size HS2.out (kd_int _)).mono ?_
   rintro e w5 ⟨hb5, ⟨hn5, rfl⟩ | ⟨f5, hn5, rfl, hs5⟩⟩
   · have HB5 := Hd hb5
     have HN5 := Hd hn5
     clear hb5 hn5
     go_wp2_with fail
     exact ⟨rfl, HB5.out, Or.inl ⟨by rw [HE2.out, HN5.out], rfl⟩⟩
   · have HB5 := Hd hb5
     have HN5 := Hd hn5
     have HS5 := Hd hs5
     clear hb5 hn5 hs5
     go_wp2_with fail
     go_end0
     exact ⟨HB5.out, Or.inr ⟨_, by rw [HE2.out, HN5.out], rfl, HS5.out⟩⟩
 · have hq : (k2 == [78]) = false := by rw [beq_eq_false_iff_ne]; exact hk78
   go_wp2_with fail
   refine (HPR.out k2 _).mono ?_
   rintro e w3 ⟨rfl, hw3⟩
   subst hw3
   have hpf : hasPrefix k2 [91] = (k2.head? == some 91) := by cases k2 with | nil => rfl | cons x r => exact hasPre_cons x r 91
   rw [hpf]
   cases hh : (k2.head? == some 91) with
   | true =>
     have HE2 := Hd (show heapF (wl l) fr ⟨19, ia, ib, ty, cl, nm⟩ f = putF f2 [73] by rw [HE.out, HN2.out]; simp only [Option.elim_some]; rw [hq, hh]; rfl)
     clear hk78 hpf
     go_wp2_with fail
     refine (need_true _).mono ?_
     rintro e wn ⟨rfl, rfl⟩
     go_wp2_with fail
     refine (put_calls (wl l) b c w0.heap.size fr gv f2 [73] w0 _ HB2.out HB2.out.size HS2.out (kd_int _)).mono ?_
     rintro e w5 ⟨hb5, ⟨hn5, rfl⟩ | ⟨f5, hn5, rfl, hs5⟩⟩
     · have HB5 := Hd hb5
       have HN5 := Hd hn5
       clear hb5 hn5
       go_wp2_with fail
       exact ⟨rfl, HB5.out, Or.inl ⟨by rw [HE2.out, HN5.out], rfl⟩⟩
     · have HB5 := Hd hb5
       have HN5 := Hd hn5
       have HS5 := Hd hs5
       clear hb5 hn5 hs5
       go_wp2_with fail
       go_end0
       exact ⟨HB5.out, Or.inr ⟨_, by rw [HE2.out, HN5.out], rfl, HS5.out⟩⟩
   | false =>
     have HE2 := Hd (show heapF (wl l) fr ⟨19, ia, ib, ty, cl, nm⟩ f = none by rw [HE.out, HN2.out]; simp only [Option.elim_some]; rw [hq, hh]; rfl)
     clear hk78 hpf
     go_wp2_with fail
     refine (need_false _).mono ?_
     rintro e wn ⟨rfl, rfl⟩
     go_wp2_with fail
     exact ⟨rfl, HB2.out, Or.inl ⟨HE2.out, rfl⟩⟩
theorem heap_23 (l : List ClassR) (L : List CP) (b c : Nat) (fr gv : Nm) (f : FrR) (ia ib : Int) (ty cl nm : Nm) (w0 w : World) (hW : WOk w0 b l L) (hb : Below w0.heap.size w0 w) (hs : Stp (wl l) w w0.heap.size c b fr gv f) (hl : ty.length ≤ 8388607) :
   Calls Tryz.prog 94 #[.pointer (some ⟨c, 0, none⟩), .agg #[.int .i64 (23), .int .i64 ia, .int .i64 ib, .string ⟨⟨ty⟩⟩, .string ⟨⟨cl⟩⟩, .string ⟨⟨nm⟩⟩]] w (StRes (wl l) (heapF (wl l) fr ⟨23, ia, ib, ty, cl, nm⟩ f) w0.heap.size c b fr gv w0) := by
 obtain ⟨w1, hw1⟩ : ∃ w1, w1 = w.alloc (.cells #[.int .i64 23, .int .i64 ia, .int .i64 ib, .string ⟨⟨ty⟩⟩, .string ⟨⟨cl⟩⟩, .string ⟨⟨nm⟩⟩] 40) := ⟨_, rfl⟩
 have hal : Below w.heap.size w w1 := by rw [hw1]; exact bl_alloc (Below.refl _ _) _
 have HX1 := Hd (show Blk w1 w.heap.size 40 #[.int .i64 23, .int .i64 ia, .int .i64 ib, .string ⟨⟨ty⟩⟩, .string ⟨⟨cl⟩⟩, .string ⟨⟨nm⟩⟩] by rw [hw1]; exact blk_new _ _ _ _ rfl)
 have HG1 := Hd (gb_below (gb_refl w c) hal)
 have HB1 := Hd (hb.trans (hal.mono hb.size))
 have HS1 := Hd (hs.below hal)
 have HW := Hd hW
 have HB := Hd hb
 have HCB := Hd hs.cB
 have hb0 : w0.heap.size ≤ w.heap.size := hb.size
 have hwc : w.heap.size ≠ c := by have := hs.lt; omega
 have HE := Hd (show heapF (wl l) fr ⟨23, ia, ib, ty, cl, nm⟩ f = if kindErr (wl l) ty ≠ 0 then none else (refF f).elim none fun p => putF p.2 [73] by unfold heapF; simp)
 have HKN := Hd (known_calls l L b c w0.heap.size fr gv f ty w0 w1 HW.out rfl HB1.out HS1.out (by omega))
 by_cases hkt : kindErr (wl l) ty = 0
 rotate_left
 · rw [if_neg hkt] at HKN
   have HK0 := Hd hkt
   have e0 := HX1.out.cell 0
   have e3 := HX1.out.cell 3
   have el := HX1.out.lt
   clear hW hb hs hal hkt 
   go_enter Tryz.func94, Tryz.ntmps94
   go_upto_region 1 with fail
   rw [← hw1]
   clear hw1
   go_wp2_with fail
   refine HKN.out.mono ?_
   rintro e w2 ⟨rfl, hb2⟩
   have HB2 := Hd (HB1.out.trans (hb2.mono HB1.out.size))
   clear hb2
   go_wp2_with fail
   exact ⟨rfl, HB2.out, Or.inl ⟨by rw [HE.out, if_pos HK0.out], rfl⟩⟩
 rw [if_pos hkt] at HKN
 have HKT := Hd hkt
 have e0 := HX1.out.cell 0
 have e3 := HX1.out.cell 3
 have el := HX1.out.lt
 clear hW hb hs hal hkt 
 go_enter Tryz.func94, Tryz.ntmps94
 go_upto_region 1 with fail
 rw [← hw1]
 clear hw1
 go_wp2_with fail
 refine HKN.out.mono ?_
 rintro e w2 ⟨rfl, hb2⟩
 have HB2 := Hd (HB1.out.trans (hb2.mono HB1.out.size))
 have HS2 := Hd (HS1.out.below hb2)
 have HX2 := Hd (HX1.out.below hb2)
 clear hb2
 clear e0 e3 el
 have e0 := HX2.out.cell 0
 have e3 := HX2.out.cell 3
 have el := HX2.out.lt
 go_wp2_with fail
 refine (ref_calls (wl l) b c w0.heap.size fr gv f _ HS2.out).mono ?_
 rintro e w3 ⟨hg3, ⟨hn3, rfl⟩ | ⟨k3, f3, hn3, rfl, hs3⟩⟩
 · have HB3 := Hd (gb_to_below HB2.out hg3 HCB.out)
   have HN3 := Hd hn3
   clear hg3 hn3
   go_wp2_with fail
   exact ⟨rfl, HB3.out, Or.inl ⟨by simp [putO, HE.out, HKT.out, HN3.out], rfl⟩⟩
 have HN3 := Hd hn3
 have HS3 := Hd hs3
 have HB3 := Hd (gb_to_below HB2.out hg3 HCB.out)
 have HX3 := Hd (gb_blk hg3 HX2.out hwc)
 clear hg3 hn3 hs3
 clear e0 e3 el
 have e0 := HX3.out.cell 0
 have e3 := HX3.out.cell 3
 have el := HX3.out.lt
 have ez := HX3.out.frozen 3
 have HX4 := Hd (blk_set HX3.out 3 (.string ⟨#[73]⟩))
 have HS4 := Hd (HS3.out.setBox HX3.out hwc 3 (.string ⟨#[73]⟩))
 have HB4 := Hd (HB3.out.setCell (p := ⟨w.heap.size, 3, none⟩) hb0 (.string ⟨#[73]⟩))
 go_wp2_with fail
 clear ez
 refine (put_calls (wl l) b c w0.heap.size fr gv f3 [73] w0 _ HB4.out HB4.out.size HS4.out (kd_int _)).mono ?_
 rintro e w5 ⟨hb5, ⟨hn5, rfl⟩ | ⟨f5, hn5, rfl, hs5⟩⟩
 · have HB5 := Hd (hb5)
   have HN5 := Hd hn5
   clear hb5 hn5
   go_wp2_with fail
   exact ⟨rfl, HB5.out, Or.inl ⟨by simp [putO, HE.out, HKT.out, HN3.out, HN5.out], rfl⟩⟩
 have HN5 := Hd hn5
 have HS5 := Hd hs5
 have HB5 := Hd hb5
 clear hb5 hn5 hs5
 clear e0 e3 el
 go_wp2_with fail
 go_end0
 exact ⟨HB5.out, Or.inr ⟨_, by simp [putO, HE.out, HKT.out, HN3.out, HN5.out], rfl, HS5.out⟩⟩
theorem heap_15 (l : List ClassR) (L : List CP) (b c : Nat) (fr gv : Nm) (f : FrR) (ia ib : Int) (ty cl nm : Nm) (w0 w : World) (hW : WOk w0 b l L) (hb : Below w0.heap.size w0 w) (hs : Stp (wl l) w w0.heap.size c b fr gv f) (hcl : cl.length ≤ 20) :
   Calls Tryz.prog 94 #[.pointer (some ⟨c, 0, none⟩), .agg #[.int .i64 (15), .int .i64 ia, .int .i64 ib, .string ⟨⟨ty⟩⟩, .string ⟨⟨cl⟩⟩, .string ⟨⟨nm⟩⟩]] w (StRes (wl l) (heapF (wl l) fr ⟨15, ia, ib, ty, cl, nm⟩ f) w0.heap.size c b fr gv w0) := by
 obtain ⟨w1, hw1⟩ : ∃ w1, w1 = w.alloc (.cells #[.int .i64 15, .int .i64 ia, .int .i64 ib, .string ⟨⟨ty⟩⟩, .string ⟨⟨cl⟩⟩, .string ⟨⟨nm⟩⟩] 40) := ⟨_, rfl⟩
 have hal : Below w.heap.size w w1 := by rw [hw1]; exact bl_alloc (Below.refl _ _) _
 have HX1 := Hd (show Blk w1 w.heap.size 40 #[.int .i64 15, .int .i64 ia, .int .i64 ib, .string ⟨⟨ty⟩⟩, .string ⟨⟨cl⟩⟩, .string ⟨⟨nm⟩⟩] by rw [hw1]; exact blk_new _ _ _ _ rfl)
 have HG1 := Hd (gb_below (gb_refl w c) hal)
 have HB1 := Hd (hb.trans (hal.mono hb.size))
 have HS1 := Hd (hs.below hal)
 have HW := Hd hW
 have HB := Hd hb
 have HCB := Hd hs.cB
 have hwc : w.heap.size ≠ c := by have := hs.lt; omega
 have HTH := Hd (fun w => thing_calls cl (by omega) w)
 have htl : (thing cl).length ≤ 8388608 := by simp [thing]; omega
 have HE := Hd (show heapF (wl l) fr ⟨15, ia, ib, ty, cl, nm⟩ f = if kindErr (wl l) (thing cl) ≠ 0 then none else if (look (wl l) cl).elim false (·.face) = true then none else putF f (thing cl) by unfold heapF; simp)
 have HKN := Hd (known_calls l L b c w0.heap.size fr gv f (thing cl) w0 w1 HW.out rfl HB1.out HS1.out htl)
 by_cases hkt : kindErr (wl l) (thing cl) = 0
 rotate_left
 · rw [if_neg hkt] at HKN
   have HK0 := Hd hkt
   have e0 := HX1.out.cell 0
   have e4 := HX1.out.cell 4
   have el := HX1.out.lt
   clear hW hb hs hal hkt 
   go_enter Tryz.func94, Tryz.ntmps94
   go_upto_region 1 with fail
   rw [← hw1]
   clear hw1
   go_wp2_with fail
   refine (HTH.out _).mono ?_
   rintro e wo ⟨rfl, rfl⟩
   go_wp2_with fail
   refine HKN.out.mono ?_
   rintro e w2 ⟨rfl, hb2⟩
   have HB2 := Hd (HB1.out.trans (hb2.mono HB1.out.size))
   clear hb2
   go_wp2_with fail
   exact ⟨rfl, HB2.out, Or.inl ⟨by rw [HE.out, if_pos HK0.out], rfl⟩⟩
 rw [if_pos hkt] at HKN
 have HKT := Hd hkt
 have e0 := HX1.out.cell 0
 have e4 := HX1.out.cell 4
 have el := HX1.out.lt
 clear hW hb hs hal hkt 
 go_enter Tryz.func94, Tryz.ntmps94
 go_upto_region 1 with fail
 rw [← hw1]
 clear hw1
 go_wp2_with fail
 refine (HTH.out _).mono ?_
 rintro e wo ⟨rfl, rfl⟩
 go_wp2_with fail
 refine HKN.out.mono ?_
 rintro e w2 ⟨rfl, hb2⟩
 have HB2 := Hd (HB1.out.trans (hb2.mono HB1.out.size))
 have HS2 := Hd (HS1.out.below hb2)
 have HX2 := Hd (HX1.out.below hb2)
 clear hb2
 clear e0 e4 el
 have e0 := HX2.out.cell 0
 have e4 := HX2.out.cell 4
 have el := HX2.out.lt
 have hcm : cl.length ≤ maxLen := by unfold maxLen; omega
 obtain ⟨CV, hCV⟩ : ∃ CV, CV = curP L cl := ⟨_, rfl⟩
 have HLK := Hd (fun W (hw : Below w2.heap.size w2 W) => (show (Instr.lookup 88 (.map (some b)) (.string ⟨⟨cl⟩⟩) false).run Tryz.prog W = .ok (classV CV.1 CV.2) W from by rw [hCV]; exact cur_look ((HW.out.below (HB2.out.trans (hw.mono HB2.out.size))).at_) hcm))
 have HFC := Hd (show CV.1.face = (look (wl l) cl).elim false (·.face) from by rw [hCV, cur_is, HW.out.cl]; cases hlk : look (wl l) cl <;> rfl)
 have HSC := Hd (fun W (hw : Below w2.heap.size w2 W) => (show W.cell? ⟨c, 0, none⟩ = some (.map (some b)) ∧ W.cell? ⟨w.heap.size, 4, none⟩ = some (.string ⟨⟨cl⟩⟩) ∧ (Instr.lookup 88 (.map (some b)) (.string ⟨⟨cl⟩⟩) false).run Tryz.prog W = .ok (classV CV.1 CV.2) W from ⟨(HS2.out.below hw).cell0, (HX2.out.below hw).cell 4, HLK.out W hw⟩))
 clear hCV
 go_upto_region 4 with fail
 cases hfc : CV.1.face with
 | true =>
   have HE2 := Hd (show heapF (wl l) fr ⟨15, ia, ib, ty, cl, nm⟩ f = none by rw [HE.out, if_neg (by simpa using HKT.out), if_pos (by rw [← HFC.out]; exact hfc)])
   have HFT := Hd (fun (w : World) => (class_face CV.1 CV.2 w))
   rw [hfc] at HFT
   have hft := HFT.out
   refine Code.wp_mono (Q := PanQ c w2) ?_ ?_
   · rintro e a' w' ⟨rfl, hd', hg'⟩
     go_wp2_with fail
     exact ⟨hd', gb_to_below HB2.out hg' HCB.out, Or.inl ⟨HE2.out, rfl⟩⟩
   refine wp_region_held_drew (S := fun W' => W'.cell? ⟨c, 0, none⟩ = some (.map (some b)) ∧ W'.cell? ⟨w.heap.size, 4, none⟩ = some (.string ⟨⟨cl⟩⟩) ∧ (Instr.lookup 88 (.map (some b)) (.string ⟨⟨cl⟩⟩) false).run Tryz.prog W' = .ok (classV CV.1 CV.2) W') (by kernel_rfl) ?_ (fun hHeld => ?_)
   · exact HSC.out _ (Below.refl _ _).drew
   refine wpAnyH_take (i := 0) (oi := { dst := some 15, op := Op.move (Operand.tmp 0), type := 168, pos := "frame.go:219", after := #[], guard := none }) (v := ?_) rfl (by kernel_rfl) (by kernel_rfl) (by kernel_rfl) (fun _ _ _ h => h) (Or.inl ⟨by rfl, ?_⟩) (by assumption) ?_
   rotate_left
   · (intro w hSw; (try dsimp only at hSw); go_simp; try with_reducible rfl)
   try simp only [Act.put, List.setIfInBounds_toArray, List.set_cons_zero, List.set_cons_succ]
   refine wpAnyH_take (i := 1) (oi := { dst := some 16, op := Op.nilCheck (Operand.tmp 15), type := 0, pos := "frame.go:219", after := #[{ on := 0, ground := Ground.data }], guard := none }) (v := ?_) rfl (by kernel_rfl) (by kernel_rfl) (by kernel_rfl) (fun _ _ _ h => h) (Or.inl ⟨by rfl, ?_⟩) (by assumption) ?_
   rotate_left
   · (intro w hSw; (try dsimp only at hSw); go_simp; try with_reducible rfl)
   try simp only [Act.put, List.setIfInBounds_toArray, List.set_cons_zero, List.set_cons_succ]
   refine wpAnyH_take (i := 2) (oi := { dst := some 17, op := Op.fieldAddr 171 (Operand.tmp 16) 0, type := 0, pos := "frame.go:219", after := #[{ on := 1, ground := Ground.data }], guard := none }) (v := ?_) rfl (by kernel_rfl) (by kernel_rfl) (by kernel_rfl) (fun _ _ _ h => h) (Or.inl ⟨by rfl, ?_⟩) (by assumption) ?_
   rotate_left
   · (intro w hSw; (try dsimp only at hSw); go_simp; try with_reducible rfl)
   try simp only [Act.put, List.setIfInBounds_toArray, List.set_cons_zero, List.set_cons_succ]
   refine wpAnyH_take (i := 3) (oi := { dst := some 18, op := Op.load 88 (Operand.tmp 17), type := 88, pos := "frame.go:219", after := #[{ on := 2, ground := Ground.data }], guard := none }) (v := ?_) rfl (by kernel_rfl) (by kernel_rfl) (by kernel_rfl) (fun _ _ _ h => h) (Or.inl ⟨by rfl, ?_⟩) (by assumption) ?_
   rotate_left
   · (intro w hSw; (try dsimp only at hSw); go_simp; try with_reducible rfl)
   try simp only [Act.put, List.setIfInBounds_toArray, List.set_cons_zero, List.set_cons_succ]
   refine wpAnyH_take (i := 4) (oi := { dst := some 19, op := Op.fieldAddr 40 (Operand.tmp 3) 4, type := 0, pos := "frame.go:219", after := #[], guard := none }) (v := ?_) rfl (by kernel_rfl) (by kernel_rfl) (by kernel_rfl) (fun _ _ _ h => h) (Or.inl ⟨by rfl, ?_⟩) (by assumption) ?_
   rotate_left
   · (intro w hSw; (try dsimp only at hSw); go_simp; try with_reducible rfl)
   try simp only [Act.put, List.setIfInBounds_toArray, List.set_cons_zero, List.set_cons_succ]
   refine wpAnyH_take (i := 5) (oi := { dst := some 20, op := Op.load 9 (Operand.tmp 19), type := 9, pos := "frame.go:219", after := #[{ on := 4, ground := Ground.data }], guard := none }) (v := ?_) rfl (by kernel_rfl) (by kernel_rfl) (by kernel_rfl) (fun _ _ _ h => h) (Or.inl ⟨by rfl, ?_⟩) (by assumption) ?_
   rotate_left
   · (intro w hSw; (try dsimp only at hSw); go_simp; try with_reducible rfl)
   try simp only [Act.put, List.setIfInBounds_toArray, List.set_cons_zero, List.set_cons_succ]
   refine wpAnyH_take (i := 6) (oi := { dst := some 21, op := Op.lookup 88 (Operand.tmp 18) (Operand.tmp 20) false, type := 50, pos := "frame.go:219", after := #[{ on := 3, ground := Ground.data }, { on := 5, ground := Ground.data }], guard := none }) (v := ?_) rfl (by kernel_rfl) (by kernel_rfl) (by kernel_rfl) (fun _ _ _ h => h) (Or.inl ⟨by rfl, ?_⟩) (by assumption) ?_
   rotate_left
   · (intro w hSw; (try dsimp only at hSw); go_simp; try with_reducible rfl)
   try simp only [Act.put, List.setIfInBounds_toArray, List.set_cons_zero, List.set_cons_succ]
   refine wpAnyH_take (i := 7) (oi := { dst := some 22, op := Op.field 50 (Operand.tmp 21) 3, type := 4, pos := "frame.go:219", after := #[{ on := 6, ground := Ground.data }], guard := none }) (v := ?_) rfl (by kernel_rfl) (by kernel_rfl) (by kernel_rfl) (fun _ _ _ h => h) (Or.inl ⟨by rfl, ?_⟩) (by assumption) ?_
   rotate_left
   · (intro w hSw; (try dsimp only at hSw); go_simp; try with_reducible rfl)
   try simp only [Act.put, List.setIfInBounds_toArray, List.set_cons_zero, List.set_cons_succ]
   refine wpAnyH_take (i := 8) (oi := { dst := some 23, op := Op.unOp UnOp.not 4 (Operand.tmp 22), type := 4, pos := "frame.go:219", after := #[{ on := 7, ground := Ground.data }], guard := none }) (v := ?_) rfl (by kernel_rfl) (by kernel_rfl) (by kernel_rfl) (fun _ _ _ h => h) (Or.inl ⟨by rfl, ?_⟩) (by assumption) ?_
   rotate_left
   · (intro w hSw; (try dsimp only at hSw); go_simp; try with_reducible rfl)
   try simp only [Act.put, List.setIfInBounds_toArray, List.set_cons_zero, List.set_cons_succ]
   refine wpAnyH_ready (rs := [9]) (by kernel_rfl) (by simp) ?_
   refine AllReadyH.cons (o := { dst := some 24, op := Op.call { callee := Callee.value (Operand.func 156), args := #[Operand.tmp 23], argTypes := #[4] }, type := 0, pos := "frame.go:219", after := #[{ on := 8, ground := Ground.data }], guard := none }) rfl (fun K hK => ?_) AllReadyH.nil
   go_simp
   go_wp2_with ((go_at_call 156; refine (need_false _).mono ?_; rintro e w5 ⟨rfl, rfl⟩))
   exact ⟨rfl, rfl, gb_drew (gb_refl w2 c)⟩
 | false =>
   have HE2 := Hd (show heapF (wl l) fr ⟨15, ia, ib, ty, cl, nm⟩ f = putF f (thing cl) by rw [HE.out, if_neg (by simpa using HKT.out), if_neg (by rw [← HFC.out, hfc]; simp)])
   have HFT := Hd (fun (w : World) => (class_face CV.1 CV.2 w))
   rw [hfc] at HFT
   have hft := HFT.out
   have HG := Hd (fun (d : Nat) (os : Array Obj) => below_regrown w2 d os)
   have g0 := fun (d : Nat) (os : Array Obj) => (HSC.out _ (HG.out d os)).1
   have g1 := fun (d : Nat) (os : Array Obj) => (HSC.out _ (HG.out d os)).2.1
   have g2 := fun (d : Nat) (os : Array Obj) => (HSC.out _ (HG.out d os)).2.2
   refine wp_region_quiet_below (by kernel_rfl) (by kernel_rfl) ?_
   repeat (first | go_big_quiet_step (with_reducible exact Calls.regrown_of ((need_true _).mono fun e w h => ⟨h.1, by rw [h.2]; exact Below.refl _ _⟩)) | quiet_step (with_reducible exact Calls.regrown_of ((need_true _).mono fun e w h => ⟨h.1, by rw [h.2]; exact Below.refl _ _⟩)))
   refine wpQuiet_nil ?_
   intro _ hw'
   obtain ⟨⟨dq, osq⟩, hw''⟩ := hw'
   subst hw''
   have HBQ := Hd (HB2.out.trans ((HG.out dq osq).mono HB2.out.size))
   have HSQ := Hd (HS2.out.below (HG.out dq osq))
   have y1 := g1 dq osq
   clear g0 g1 g2 e0 e4
   go_wp2_with fail
   refine (HTH.out _).mono ?_
   rintro e wo ⟨rfl, rfl⟩
   go_wp2_with fail
   refine (put_calls (wl l) b c w0.heap.size fr gv f (thing cl) w0 _ HBQ.out HBQ.out.size HSQ.out HKT.out).mono ?_
   rintro e w5 ⟨hb5, ⟨hn5, rfl⟩ | ⟨f5, hn5, rfl, hs5⟩⟩
   · have HB5 := Hd hb5
     have HN5 := Hd hn5
     clear hb5 hn5
     go_wp2_with fail
     exact ⟨rfl, HB5.out, Or.inl ⟨by rw [HE2.out, HN5.out], rfl⟩⟩
   · have HB5 := Hd hb5
     have HN5 := Hd hn5
     have HS5 := Hd hs5
     clear hb5 hn5 hs5
     go_wp2_with fail
     go_end0
     exact ⟨HB5.out, Or.inr ⟨_, by rw [HE2.out, HN5.out], rfl, HS5.out⟩⟩
theorem heap_17 (l : List ClassR) (L : List CP) (b c : Nat) (fr gv : Nm) (f : FrR) (ia ib : Int) (ty cl nm : Nm) (w0 w : World) (hW : WOk w0 b l L) (hb : Below w0.heap.size w0 w) (hs : Stp (wl l) w w0.heap.size c b fr gv f) (hcl : cl.length ≤ 20) :
   Calls Tryz.prog 94 #[.pointer (some ⟨c, 0, none⟩), .agg #[.int .i64 (17), .int .i64 ia, .int .i64 ib, .string ⟨⟨ty⟩⟩, .string ⟨⟨cl⟩⟩, .string ⟨⟨nm⟩⟩]] w (StRes (wl l) (heapF (wl l) fr ⟨17, ia, ib, ty, cl, nm⟩ f) w0.heap.size c b fr gv w0) := by
 obtain ⟨w1, hw1⟩ : ∃ w1, w1 = w.alloc (.cells #[.int .i64 17, .int .i64 ia, .int .i64 ib, .string ⟨⟨ty⟩⟩, .string ⟨⟨cl⟩⟩, .string ⟨⟨nm⟩⟩] 40) := ⟨_, rfl⟩
 have hal : Below w.heap.size w w1 := by rw [hw1]; exact bl_alloc (Below.refl _ _) _
 have HX1 := Hd (show Blk w1 w.heap.size 40 #[.int .i64 17, .int .i64 ia, .int .i64 ib, .string ⟨⟨ty⟩⟩, .string ⟨⟨cl⟩⟩, .string ⟨⟨nm⟩⟩] by rw [hw1]; exact blk_new _ _ _ _ rfl)
 have HG1 := Hd (gb_below (gb_refl w c) hal)
 have HB1 := Hd (hb.trans (hal.mono hb.size))
 have HS1 := Hd (hs.below hal)
 have HW := Hd hW
 have HB := Hd hb
 have HCB := Hd hs.cB
 have hwc : w.heap.size ≠ c := by have := hs.lt; omega
 have HTH := Hd (fun w => thing_calls cl (by omega) w)
 have htl : (thing cl).length ≤ 8388608 := by simp [thing]; omega
 have HE := Hd (show heapF (wl l) fr ⟨17, ia, ib, ty, cl, nm⟩ f = (fldF (wl l) cl nm).elim none fun t => takeF (wl l) [t, thing cl] f by unfold heapF; simp)
 have HSX := Hd (fun W' (h : w1.grownBy W' (some c)) => (show (fun W' => W'.cell? ⟨w.heap.size, 0, none⟩ = some (.int .i64 17) ∧ W'.cell? ⟨w.heap.size, 1, none⟩ = some (.int .i64 ia) ∧ W'.cell? ⟨w.heap.size, 2, none⟩ = some (.int .i64 ib) ∧ W'.cell? ⟨w.heap.size, 3, none⟩ = some (.string ⟨⟨ty⟩⟩) ∧ W'.cell? ⟨w.heap.size, 4, none⟩ = some (.string ⟨⟨cl⟩⟩) ∧ W'.cell? ⟨w.heap.size, 5, none⟩ = some (.string ⟨⟨nm⟩⟩)) W' from by have hx := gb_blk h HX1.out hwc; exact ⟨hx.cell 0, hx.cell 1, hx.cell 2, hx.cell 3, hx.cell 4, hx.cell 5⟩))
 have HFG := Hd (fun W (hw : Below w1.heap.size w1 W) => field_go l L b c fr gv f 17 ia ib ty cl nm w0 W hW (HB1.out.trans (hw.mono HB1.out.size)) (HS1.out.below hw) hcl)
 have e0 := HX1.out.cell 0
 have el := HX1.out.lt
 clear hW hb hs hal hcl
 go_enter Tryz.func94, Tryz.ntmps94
 go_upto_region 1 with fail
 rw [← hw1]
 clear hw1
 go_upto_region 11 with fail
 cases hf : fldF (wl l) cl nm with
 | none =>
   have HE2 := Hd (show heapF (wl l) fr ⟨17, ia, ib, ty, cl, nm⟩ f = none by rw [HE.out, hf]; rfl)
   refine Code.wp_mono (Q := PanQ c w1) ?_ ?_
   · rintro e a' w' ⟨rfl, hd', hg'⟩
     go_wp2_with fail
     exact ⟨hd', gb_to_below HB1.out hg' HCB.out, Or.inl ⟨HE2.out, rfl⟩⟩
   refine wp_region_held_drew (S := fun W' => W'.cell? ⟨w.heap.size, 0, none⟩ = some (.int .i64 17) ∧ W'.cell? ⟨w.heap.size, 1, none⟩ = some (.int .i64 ia) ∧ W'.cell? ⟨w.heap.size, 2, none⟩ = some (.int .i64 ib) ∧ W'.cell? ⟨w.heap.size, 3, none⟩ = some (.string ⟨⟨ty⟩⟩) ∧ W'.cell? ⟨w.heap.size, 4, none⟩ = some (.string ⟨⟨cl⟩⟩) ∧ W'.cell? ⟨w.heap.size, 5, none⟩ = some (.string ⟨⟨nm⟩⟩)) (by kernel_rfl) ?_ (fun hHeld => ?_)
   · exact HSX.out _ (gb_drew (gb_refl w1 c))
   refine wpAnyH_take (i := 0) (oi := { dst := some 46, op := Op.move (Operand.tmp 0), type := 168, pos := "frame.go:226", after := #[], guard := none }) (v := ?_) rfl (by kernel_rfl) (by kernel_rfl) (by kernel_rfl) (fun _ _ _ h => h) (Or.inl ⟨by rfl, ?_⟩) (by assumption) ?_
   rotate_left
   · (intro w hSw; (try dsimp only at hSw); go_simp; try with_reducible rfl)
   try simp only [Act.put, List.setIfInBounds_toArray, List.set_cons_zero, List.set_cons_succ]
   refine wpAnyH_take (i := 1) (oi := { dst := some 47, op := Op.move (Operand.tmp 0), type := 168, pos := "frame.go:226", after := #[], guard := none }) (v := ?_) rfl (by kernel_rfl) (by kernel_rfl) (by kernel_rfl) (fun _ _ _ h => h) (Or.inl ⟨by rfl, ?_⟩) (by assumption) ?_
   rotate_left
   · (intro w hSw; (try dsimp only at hSw); go_simp; try with_reducible rfl)
   try simp only [Act.put, List.setIfInBounds_toArray, List.set_cons_zero, List.set_cons_succ]
   refine wpAnyH_take (i := 2) (oi := { dst := some 48, op := Op.load 40 (Operand.tmp 3), type := 40, pos := "frame.go:226", after := #[], guard := none }) (v := ?_) rfl (by kernel_rfl) (by kernel_rfl) (by kernel_rfl) (fun _ _ _ h => h) (Or.inl ⟨by rfl, ?_⟩) (by assumption) ?_
   rotate_left
   · (intro w hSw; (try dsimp only at hSw); go_simp; try with_reducible rfl)
   try simp only [Act.put, List.setIfInBounds_toArray, List.set_cons_zero, List.set_cons_succ]
   refine wpAnyH_take (i := 4) (oi := { dst := some 50, op := Op.fieldAddr 40 (Operand.tmp 3) 4, type := 0, pos := "frame.go:226", after := #[], guard := none }) (v := ?_) rfl (by kernel_rfl) (by kernel_rfl) (by kernel_rfl) (fun _ _ _ h => h) (Or.inl ⟨by rfl, ?_⟩) (by assumption) ?_
   rotate_left
   · (intro w hSw; (try dsimp only at hSw); go_simp; try with_reducible rfl)
   try simp only [Act.put, List.setIfInBounds_toArray, List.set_cons_zero, List.set_cons_succ]
   refine wpAnyH_take (i := 5) (oi := { dst := some 51, op := Op.load 9 (Operand.tmp 50), type := 9, pos := "frame.go:226", after := #[{ on := 4, ground := Ground.data }], guard := none }) (v := ?_) rfl (by kernel_rfl) (by kernel_rfl) (by kernel_rfl) (fun _ _ _ h => h) (Or.inl ⟨by rfl, ?_⟩) (by assumption) ?_
   rotate_left
   · (intro w hSw; (try dsimp only at hSw); go_simp; try with_reducible rfl)
   try simp only [Act.put, List.setIfInBounds_toArray, List.set_cons_zero, List.set_cons_succ]
   refine wpAnyH_ready (rs := [3]) (by kernel_rfl) (by simp) ?_
   refine AllReadyH.cons (o := { dst := some 49, op := Op.call { callee := Callee.value (Operand.func 162), args := #[Operand.tmp 47, Operand.tmp 48], argTypes := #[168, 40] }, type := 9, pos := "frame.go:226", after := #[{ on := 1, ground := Ground.data }, { on := 2, ground := Ground.data }], guard := none }) rfl (fun K hK => ?_) AllReadyH.nil
   go_simp
   go_wp2_with (go_at_call 162; refine (HFG.out _ (Below.refl _ _).drew).mono ?_; rintro e w2 ⟨hg2, ⟨hn2, rfl⟩ | ⟨k2, hn2, rfl, hs2⟩⟩)
   · exact ⟨rfl, rfl, gb_trans (gb_drew (gb_refl w1 c)) hg2⟩
   · rw [hf] at hn2; cases hn2
 | some t =>
   have HK := Hd (fld_kd hf)
   have HFS := Hd (show Calls Tryz.prog 162 #[.pointer (some ⟨c, 0, none⟩), .agg #[.int .i64 17, .int .i64 ia, .int .i64 ib, .string ⟨⟨ty⟩⟩, .string ⟨⟨cl⟩⟩, .string ⟨⟨nm⟩⟩]] w1.drew fun e w' => e = .returned (.string ⟨⟨t⟩⟩) ∧ w1.drew.grownBy w' (some c) ∧ Stp (wl l) w' w0.heap.size c b fr gv f from (HFG.out _ (Below.refl _ _).drew).mono (fun e w' ⟨hg, h⟩ => by
     rcases h with ⟨h, _⟩ | ⟨k, h, he, hs⟩
     · rw [hf] at h; cases h
     · rw [hf] at h
       simp only [Option.some.injEq] at h
       subst h
       exact ⟨he, hg, hs⟩))
   have HTT := Hd (fun W (hg : w1.drew.grownBy W (some c)) (hs : Stp (wl l) W w0.heap.size c b fr gv f) => take2 l L b c fr gv f t (thing cl) w0 W HW.out (gb_to_below HB1.out (gb_trans (gb_drew (gb_refl w1 c)) hg) HCB.out) hs (kd_len HK.out.1) htl)
   cases ht : takeF (wl l) [t, thing cl] f with
   | none =>
     have HE2 := Hd (show heapF (wl l) fr ⟨17, ia, ib, ty, cl, nm⟩ f = none by rw [HE.out, hf]; exact ht)
     refine Code.wp_mono (Q := PanQ c w1) ?_ ?_
     · rintro e a' w' ⟨rfl, hd', hg'⟩
       go_wp2_with fail
       exact ⟨hd', gb_to_below HB1.out hg' HCB.out, Or.inl ⟨HE2.out, rfl⟩⟩
     refine wp_region_held_drew (S := fun W' => W'.cell? ⟨w.heap.size, 0, none⟩ = some (.int .i64 17) ∧ W'.cell? ⟨w.heap.size, 1, none⟩ = some (.int .i64 ia) ∧ W'.cell? ⟨w.heap.size, 2, none⟩ = some (.int .i64 ib) ∧ W'.cell? ⟨w.heap.size, 3, none⟩ = some (.string ⟨⟨ty⟩⟩) ∧ W'.cell? ⟨w.heap.size, 4, none⟩ = some (.string ⟨⟨cl⟩⟩) ∧ W'.cell? ⟨w.heap.size, 5, none⟩ = some (.string ⟨⟨nm⟩⟩)) (by kernel_rfl) ?_ (fun hHeld => ?_)
     · exact HSX.out _ (gb_drew (gb_refl w1 c))
     refine wpAnyH_take (i := 0) (oi := { dst := some 46, op := Op.move (Operand.tmp 0), type := 168, pos := "frame.go:226", after := #[], guard := none }) (v := ?_) rfl (by kernel_rfl) (by kernel_rfl) (by kernel_rfl) (fun _ _ _ h => h) (Or.inl ⟨by rfl, ?_⟩) (by assumption) ?_
     rotate_left
     · (intro w hSw; (try dsimp only at hSw); go_simp; try with_reducible rfl)
     try simp only [Act.put, List.setIfInBounds_toArray, List.set_cons_zero, List.set_cons_succ]
     refine wpAnyH_take (i := 1) (oi := { dst := some 47, op := Op.move (Operand.tmp 0), type := 168, pos := "frame.go:226", after := #[], guard := none }) (v := ?_) rfl (by kernel_rfl) (by kernel_rfl) (by kernel_rfl) (fun _ _ _ h => h) (Or.inl ⟨by rfl, ?_⟩) (by assumption) ?_
     rotate_left
     · (intro w hSw; (try dsimp only at hSw); go_simp; try with_reducible rfl)
     try simp only [Act.put, List.setIfInBounds_toArray, List.set_cons_zero, List.set_cons_succ]
     refine wpAnyH_take (i := 2) (oi := { dst := some 48, op := Op.load 40 (Operand.tmp 3), type := 40, pos := "frame.go:226", after := #[], guard := none }) (v := ?_) rfl (by kernel_rfl) (by kernel_rfl) (by kernel_rfl) (fun _ _ _ h => h) (Or.inl ⟨by rfl, ?_⟩) (by assumption) ?_
     rotate_left
     · (intro w hSw; (try dsimp only at hSw); go_simp; try with_reducible rfl)
     try simp only [Act.put, List.setIfInBounds_toArray, List.set_cons_zero, List.set_cons_succ]
     refine wpAnyH_take (i := 4) (oi := { dst := some 50, op := Op.fieldAddr 40 (Operand.tmp 3) 4, type := 0, pos := "frame.go:226", after := #[], guard := none }) (v := ?_) rfl (by kernel_rfl) (by kernel_rfl) (by kernel_rfl) (fun _ _ _ h => h) (Or.inl ⟨by rfl, ?_⟩) (by assumption) ?_
     rotate_left
     · (intro w hSw; (try dsimp only at hSw); go_simp; try with_reducible rfl)
     try simp only [Act.put, List.setIfInBounds_toArray, List.set_cons_zero, List.set_cons_succ]
     refine wpAnyH_take (i := 5) (oi := { dst := some 51, op := Op.load 9 (Operand.tmp 50), type := 9, pos := "frame.go:226", after := #[{ on := 4, ground := Ground.data }], guard := none }) (v := ?_) rfl (by kernel_rfl) (by kernel_rfl) (by kernel_rfl) (fun _ _ _ h => h) (Or.inl ⟨by rfl, ?_⟩) (by assumption) ?_
     rotate_left
     · (intro w hSw; (try dsimp only at hSw); go_simp; try with_reducible rfl)
     try simp only [Act.put, List.setIfInBounds_toArray, List.set_cons_zero, List.set_cons_succ]
     refine wpAnyH_ready (rs := [3]) (by kernel_rfl) (by simp) ?_
     refine AllReadyH.cons (o := { dst := some 49, op := Op.call { callee := Callee.value (Operand.func 162), args := #[Operand.tmp 47, Operand.tmp 48], argTypes := #[168, 40] }, type := 9, pos := "frame.go:226", after := #[{ on := 1, ground := Ground.data }, { on := 2, ground := Ground.data }], guard := none }) rfl (fun K hK => ?_) AllReadyH.nil
     go_simp
     go_wp2_with ((go_at_call 162; refine HFS.out.mono ?_; rintro e w2 ⟨rfl, hg2, hs2⟩))
     refine hK.out _ _ ?_ (fun hHeld => ?_)
     · exact HSX.out _ (gb_trans (gb_drew (gb_refl w1 c)) hg2)
     clear hK K
     try simp only [Act.put, List.setIfInBounds_toArray, List.set_cons_zero, List.set_cons_succ]
     refine wpAnyH_ready (rs := [6]) (by kernel_rfl) (by simp) ?_
     refine AllReadyH.cons (o := { dst := some 52, op := Op.call { callee := Callee.value (Operand.func 119), args := #[Operand.tmp 51], argTypes := #[9] }, type := 9, pos := "frame.go:226", after := #[{ on := 5, ground := Ground.data }, { on := 3, ground := Ground.chain }], guard := none }) rfl (fun K hK => ?_) AllReadyH.nil
     go_simp
     go_wp2_with ((go_at_call 119; refine (HTH.out _).mono ?_; rintro e w3 ⟨rfl, rfl⟩))
     refine hK.out _ _ ?_ (fun hHeld => ?_)
     · exact HSX.out _ (gb_trans (gb_drew (gb_refl w1 c)) hg2)
     clear hK K
     try simp only [Act.put, List.setIfInBounds_toArray, List.set_cons_zero, List.set_cons_succ]
     refine wpAnyH_ready (rs := [7]) (by kernel_rfl) (by simp) ?_
     refine AllReadyH.cons (o := { dst := some 53, op := Op.buildSlice 35 2 #[(0, Operand.tmp 49), (1, Operand.tmp 52)], type := 35, pos := "frame.go:226", after := #[{ on := 3, ground := Ground.data }, { on := 6, ground := Ground.data }], guard := none }) rfl (fun K hK => ?_) AllReadyH.nil
     go_simp
     try go_wp2_with fail
     refine hK.out _ _ ?_ (fun hHeld => ?_)
     · exact HSX.out _ (gb_alloc (gb_trans (gb_drew (gb_refl w1 c)) hg2) _)
     clear hK K
     try simp only [Act.put, List.setIfInBounds_toArray, List.set_cons_zero, List.set_cons_succ]
     refine wpAnyH_ready (rs := [8]) (by kernel_rfl) (by simp) ?_
     refine AllReadyH.cons (o := { dst := some 54, op := Op.call { callee := Callee.value (Operand.func 158), args := #[Operand.tmp 46, Operand.tmp 53], argTypes := #[168, 35] }, type := 0, pos := "frame.go:226", after := #[{ on := 0, ground := Ground.data }, { on := 7, ground := Ground.data }, { on := 6, ground := Ground.chain }], guard := none }) rfl (fun K hK => ?_) AllReadyH.nil
     go_simp
     go_wp2_with (go_at_call 158; refine (HTT.out _ hg2 hs2).mono ?_; rintro e w4 ⟨hg4, ⟨hn4, rfl⟩ | ⟨f4, hn4, rfl, hs4⟩⟩)
     · exact ⟨rfl, rfl, gb_trans (gb_trans (gb_drew (gb_refl w1 c)) hg2) hg4⟩
     · rw [ht] at hn4; cases hn4
   | some f4 =>
     have HE2 := Hd (show heapF (wl l) fr ⟨17, ia, ib, ty, cl, nm⟩ f = some f4 by rw [HE.out, hf]; exact ht)
     go_region_held3 (fun W' => W'.cell? ⟨w.heap.size, 0, none⟩ = some (.int .i64 17) ∧ W'.cell? ⟨w.heap.size, 1, none⟩ = some (.int .i64 ia) ∧ W'.cell? ⟨w.heap.size, 2, none⟩ = some (.int .i64 ib) ∧ W'.cell? ⟨w.heap.size, 3, none⟩ = some (.string ⟨⟨ty⟩⟩) ∧ W'.cell? ⟨w.heap.size, 4, none⟩ = some (.string ⟨⟨cl⟩⟩) ∧ W'.cell? ⟨w.heap.size, 5, none⟩ = some (.string ⟨⟨nm⟩⟩))
       (first | exact HSX.out _ (gb_refl w1 c) | exact HSX.out _ (gb_drew (gb_refl w1 c)) | exact HSX.out _ (gb_trans (gb_drew (gb_refl w1 c)) hg2) | exact HSX.out _ (gb_alloc (gb_trans (gb_drew (gb_refl w1 c)) hg2) _) | exact HSX.out _ (gb_trans (gb_trans (gb_drew (gb_refl w1 c)) hg2) hg4))
       ((first
       | (go_at_call 162
          refine HFS.out.mono ?_
          rintro e w2 ⟨rfl, hg2, hs2⟩)
       | (go_at_call 119
          refine (HTH.out _).mono ?_
          rintro e w3 ⟨rfl, rfl⟩)
       | (go_at_call 158
          refine (HTT.out _ hg2 hs2).mono ?_
          rintro e w4 ⟨hg4, ⟨hn4, rfl⟩ | ⟨f5, hn4, rfl, hs4⟩⟩
          case inl => (rw [ht] at hn4; cases hn4))))
     all_goals
       obtain rfl : f4 = f5 := by rw [ht] at hn4; simpa using hn4
       have HBE := Hd (gb_to_below HB1.out (gb_trans (gb_trans (gb_drew (gb_refl w1 c)) hg2) hg4) HCB.out)
       have HSE := Hd hs4
       go_wp2_with fail
       go_end0
       exact ⟨HBE.out, Or.inr ⟨_, HE2.out, rfl, HSE.out⟩⟩
end Go.Proofs.YtddbnboicmaooaaGreatDoor
