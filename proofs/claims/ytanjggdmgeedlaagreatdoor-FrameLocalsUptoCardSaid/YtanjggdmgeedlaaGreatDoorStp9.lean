/-
  The walk of heaped, operation by operation (printed by gen_stp9.py); New and Put stand in Stp10.
-/
import Derived.Test.YtanjggdmgeedlaaGreatDoorStp8
namespace Go.Proofs.YtanjggdmgeedlaaGreatDoor
set_option linter.unusedVariables false
set_option linter.unusedSimpArgs false
open Go.RowKit Go.Shelf Go.Lib Go.Sort

noncomputable def heapF (L : List ClassR) (fr : Nm) (x : InsR) (f : FrR) : Option FrR :=
  if x.op = 15 then (if kindErr L (thing x.cl) ≠ 0 then none else if (look L x.cl).elim false (·.face) = true then none else putF f (thing x.cl))
  else if x.op = 16 then (fldF L x.cl x.nm).elim none fun t => putO (takeF L [thing x.cl] f) t
  else if x.op = 17 then (fldF L x.cl x.nm).elim none fun t => takeF L [t, thing x.cl] f
  else if x.op = 18 then (if kindErr L x.ty ≠ 0 then none else putO (takeF L [[73]] f) (91 :: x.ty))
  else if x.op = 19 then (refF f).elim none fun p => if ((p.1 == [78]) || (p.1.head? == some 91)) = true then putF p.2 [73] else none
  else if x.op = 20 then putO (arrF L x.ty f) x.ty
  else if x.op = 21 then (if kindErr L x.ty ≠ 0 then none else (takeF L [x.ty] f).elim none fun g => arrF L x.ty g)
  else if x.op = 22 then (if kindErr L x.ty ≠ 0 then none else (refF f).elim none fun p => putF p.2 x.ty)
  else if x.op = 23 then (if kindErr L x.ty ≠ 0 then none else (refF f).elim none fun p => putF p.2 [73])
  else if x.op = 24 then callF L fr x false f
  else if x.op = 25 then callF L fr x true f
  else some f
theorem arr_kd {L : List ClassR} {t : Nm} {f : FrR} (h : arrF L t f ≠ none) : kindErr L t = 0 := by
  by_cases hk : kindErr L t = 0
  · exact hk
  · exact absurd (arr_bad hk) h

set_option maxRecDepth 100000 in
set_option maxHeartbeats 4000000 in
theorem heap_20 (l : List ClassR) (L : List CP) (b c : Nat) (fr gv : Nm) (f : FrR) (ia ib : Int) (ty cl nm : Nm) (w0 w : World) (hW : WOk w0 b l L) (hb : Below w0.heap.size w0 w) (hs : Stp (wl l) w w0.heap.size c b fr gv f) (hl : ty.length ≤ 8388607) :
    Calls Tryz.prog 79 #[.pointer (some ⟨c, 0, none⟩), .agg #[.int .i64 (20), .int .i64 ia, .int .i64 ib, .string ⟨⟨ty⟩⟩, .string ⟨⟨cl⟩⟩, .string ⟨⟨nm⟩⟩]] w (StRes (wl l) (heapF (wl l) fr ⟨20, ia, ib, ty, cl, nm⟩ f) w0.heap.size c b fr gv w0) := by
  obtain ⟨w1, hw1⟩ : ∃ w1, w1 = w.alloc (.cells #[.int .i64 20, .int .i64 ia, .int .i64 ib, .string ⟨⟨ty⟩⟩, .string ⟨⟨cl⟩⟩, .string ⟨⟨nm⟩⟩] 45) := ⟨_, rfl⟩
  have hal : Below w.heap.size w w1 := by rw [hw1]; exact bl_alloc (Below.refl _ _) _
  have HX1 := Lib.hid (show Blk w1 w.heap.size 45 #[.int .i64 20, .int .i64 ia, .int .i64 ib, .string ⟨⟨ty⟩⟩, .string ⟨⟨cl⟩⟩, .string ⟨⟨nm⟩⟩] by rw [hw1]; exact blk_new _ _ _ _ rfl)
  have HG1 := Lib.hid (gb_below (gb_refl w c) hal)
  have HB1 := Lib.hid (hb.trans (hal.mono hb.size))
  have HS1 := Lib.hid (hs.below hal)
  have HW := Lib.hid hW
  have HB := Lib.hid hb
  have HCB := Lib.hid hs.cB
  have hwc : w.heap.size ≠ c := by have := hs.lt; omega
  have HE := Lib.hid (show heapF (wl l) fr ⟨20, ia, ib, ty, cl, nm⟩ f = putO (arrF (wl l) ty f) ty by unfold heapF; simp)
  have e0 := HX1.out.cell 0
  have e3 := HX1.out.cell 3
  have el := HX1.out.lt
  clear hW hb hs hal 
  go_enter Tryz.func79, Tryz.ntmps79
  go_upto_region 1 with fail
  rw [← hw1]
  clear hw1
  go_wp2_with fail
  refine (array_calls_stp l L b c fr gv f ty w0 _ HW.out HB1.out HS1.out (by omega)).mono ?_
  rintro e w2 ⟨hg2, ⟨hn2, rfl⟩ | ⟨f2, hn2, rfl, hs2⟩⟩
  · have HB2 := Lib.hid (gb_to_below HB1.out hg2 HCB.out)
    have HN2 := Lib.hid hn2
    clear hg2 hn2
    go_wp2_with fail
    exact ⟨rfl, HB2.out, Or.inl ⟨by simp [putO, HE.out, HN2.out], rfl⟩⟩
  have HN2 := Lib.hid hn2
  have HS2 := Lib.hid hs2
  have HB2 := Lib.hid (gb_to_below HB1.out hg2 HCB.out)
  have HX2 := Lib.hid (gb_blk hg2 HX1.out hwc)
  clear hg2 hn2 hs2
  clear e0 e3 el
  have e0 := HX2.out.cell 0
  have e3 := HX2.out.cell 3
  have el := HX2.out.lt
  go_wp2_with fail
  refine (put_calls (wl l) b c w0.heap.size fr gv f2 ty w0 _ HB2.out HB2.out.size HS2.out (arr_kd (by rw [HN2.out]; simp))).mono ?_
  rintro e w3 ⟨hb3, ⟨hn3, rfl⟩ | ⟨f3, hn3, rfl, hs3⟩⟩
  · have HB3 := Lib.hid (hb3)
    have HN3 := Lib.hid hn3
    clear hb3 hn3
    go_wp2_with fail
    exact ⟨rfl, HB3.out, Or.inl ⟨by simp [putO, HE.out, HN2.out, HN3.out], rfl⟩⟩
  have HN3 := Lib.hid hn3
  have HS3 := Lib.hid hs3
  have HB3 := Lib.hid hb3
  clear hb3 hn3 hs3
  clear e0 e3 el
  go_wp2_with fail
  go_end0
  exact ⟨HB3.out, Or.inr ⟨_, by simp [putO, HE.out, HN2.out, HN3.out], rfl, HS3.out⟩⟩

set_option maxRecDepth 100000 in
set_option maxHeartbeats 4000000 in
theorem heap_18 (l : List ClassR) (L : List CP) (b c : Nat) (fr gv : Nm) (f : FrR) (ia ib : Int) (ty cl nm : Nm) (w0 w : World) (hW : WOk w0 b l L) (hb : Below w0.heap.size w0 w) (hs : Stp (wl l) w w0.heap.size c b fr gv f) (hl : ty.length ≤ 8388607) (h18 : kindErr (wl l) ty = 0 → kindErr (wl l) (91 :: ty) = 0) :
    Calls Tryz.prog 79 #[.pointer (some ⟨c, 0, none⟩), .agg #[.int .i64 (18), .int .i64 ia, .int .i64 ib, .string ⟨⟨ty⟩⟩, .string ⟨⟨cl⟩⟩, .string ⟨⟨nm⟩⟩]] w (StRes (wl l) (heapF (wl l) fr ⟨18, ia, ib, ty, cl, nm⟩ f) w0.heap.size c b fr gv w0) := by
  obtain ⟨w1, hw1⟩ : ∃ w1, w1 = w.alloc (.cells #[.int .i64 18, .int .i64 ia, .int .i64 ib, .string ⟨⟨ty⟩⟩, .string ⟨⟨cl⟩⟩, .string ⟨⟨nm⟩⟩] 45) := ⟨_, rfl⟩
  have hal : Below w.heap.size w w1 := by rw [hw1]; exact bl_alloc (Below.refl _ _) _
  have HX1 := Lib.hid (show Blk w1 w.heap.size 45 #[.int .i64 18, .int .i64 ia, .int .i64 ib, .string ⟨⟨ty⟩⟩, .string ⟨⟨cl⟩⟩, .string ⟨⟨nm⟩⟩] by rw [hw1]; exact blk_new _ _ _ _ rfl)
  have HG1 := Lib.hid (gb_below (gb_refl w c) hal)
  have HB1 := Lib.hid (hb.trans (hal.mono hb.size))
  have HS1 := Lib.hid (hs.below hal)
  have HW := Lib.hid hW
  have HB := Lib.hid hb
  have HCB := Lib.hid hs.cB
  have hwc : w.heap.size ≠ c := by have := hs.lt; omega
  have H18 := Lib.hid h18
  have hlm : (91 :: ty).length ≤ maxLen := by simp [maxLen]; omega
  have HE := Lib.hid (show heapF (wl l) fr ⟨18, ia, ib, ty, cl, nm⟩ f = if kindErr (wl l) ty ≠ 0 then none else putO (takeF (wl l) [[73]] f) (91 :: ty) by unfold heapF; simp)
  have HKN := Lib.hid (known_calls l L b c w0.heap.size fr gv f ty w0 w1 HW.out rfl HB1.out HS1.out (by omega))
  by_cases hkt : kindErr (wl l) ty = 0
  rotate_left
  · rw [if_neg hkt] at HKN
    have HK0 := Lib.hid hkt
    have e0 := HX1.out.cell 0
    have e3 := HX1.out.cell 3
    have el := HX1.out.lt
    clear hW hb hs hal hkt h18
    go_enter Tryz.func79, Tryz.ntmps79
    go_upto_region 1 with fail
    rw [← hw1]
    clear hw1
    go_wp2_with fail
    refine HKN.out.mono ?_
    rintro e w2 ⟨rfl, hb2⟩
    have HB2 := Lib.hid (HB1.out.trans (hb2.mono HB1.out.size))
    clear hb2
    go_wp2_with fail
    exact ⟨rfl, HB2.out, Or.inl ⟨by rw [HE.out, if_pos HK0.out], rfl⟩⟩
  rw [if_pos hkt] at HKN
  have HKT := Lib.hid hkt
  have e0 := HX1.out.cell 0
  have e3 := HX1.out.cell 3
  have el := HX1.out.lt
  clear hW hb hs hal hkt h18
  go_enter Tryz.func79, Tryz.ntmps79
  go_upto_region 1 with fail
  rw [← hw1]
  clear hw1
  go_wp2_with fail
  refine HKN.out.mono ?_
  rintro e w2 ⟨rfl, hb2⟩
  have HB2 := Lib.hid (HB1.out.trans (hb2.mono HB1.out.size))
  have HS2 := Lib.hid (HS1.out.below hb2)
  have HX2 := Lib.hid (HX1.out.below hb2)
  clear hb2
  clear e0 e3 el
  have e0 := HX2.out.cell 0
  have e3 := HX2.out.cell 3
  have el := HX2.out.lt
  go_wp2_with fail
  refine (take1 l L b c fr gv f [73] w0 _ HW.out HB2.out HS2.out (by decide)).mono ?_
  rintro e w3 ⟨hg3, ⟨hn3, rfl⟩ | ⟨f3, hn3, rfl, hs3⟩⟩
  · have HB3 := Lib.hid (gb_to_below HB2.out hg3 HCB.out)
    have HN3 := Lib.hid hn3
    clear hg3 hn3
    go_wp2_with fail
    exact ⟨rfl, HB3.out, Or.inl ⟨by simp [putO, HE.out, HKT.out, HN3.out], rfl⟩⟩
  have HN3 := Lib.hid hn3
  have HS3 := Lib.hid hs3
  have HB3 := Lib.hid (gb_to_below HB2.out hg3 HCB.out)
  have HX3 := Lib.hid (gb_blk hg3 HX2.out hwc)
  clear hg3 hn3 hs3
  clear e0 e3 el
  have e0 := HX3.out.cell 0
  have e3 := HX3.out.cell 3
  have el := HX3.out.lt
  go_wp2_with fail
  refine (put_calls (wl l) b c w0.heap.size fr gv f3 (91 :: ty) w0 _ HB3.out HB3.out.size HS3.out (H18.out HKT.out)).mono ?_
  rintro e w4 ⟨hb4, ⟨hn4, rfl⟩ | ⟨f4, hn4, rfl, hs4⟩⟩
  · have HB4 := Lib.hid (hb4)
    have HN4 := Lib.hid hn4
    clear hb4 hn4
    go_wp2_with fail
    exact ⟨rfl, HB4.out, Or.inl ⟨by simp [putO, HE.out, HKT.out, HN3.out, HN4.out], rfl⟩⟩
  have HN4 := Lib.hid hn4
  have HS4 := Lib.hid hs4
  have HB4 := Lib.hid hb4
  clear hb4 hn4 hs4
  clear e0 e3 el
  go_wp2_with fail
  go_end0
  exact ⟨HB4.out, Or.inr ⟨_, by simp [putO, HE.out, HKT.out, HN3.out, HN4.out], rfl, HS4.out⟩⟩

set_option maxRecDepth 100000 in
set_option maxHeartbeats 4000000 in
theorem heap_21 (l : List ClassR) (L : List CP) (b c : Nat) (fr gv : Nm) (f : FrR) (ia ib : Int) (ty cl nm : Nm) (w0 w : World) (hW : WOk w0 b l L) (hb : Below w0.heap.size w0 w) (hs : Stp (wl l) w w0.heap.size c b fr gv f) (hl : ty.length ≤ 8388607) :
    Calls Tryz.prog 79 #[.pointer (some ⟨c, 0, none⟩), .agg #[.int .i64 (21), .int .i64 ia, .int .i64 ib, .string ⟨⟨ty⟩⟩, .string ⟨⟨cl⟩⟩, .string ⟨⟨nm⟩⟩]] w (StRes (wl l) (heapF (wl l) fr ⟨21, ia, ib, ty, cl, nm⟩ f) w0.heap.size c b fr gv w0) := by
  obtain ⟨w1, hw1⟩ : ∃ w1, w1 = w.alloc (.cells #[.int .i64 21, .int .i64 ia, .int .i64 ib, .string ⟨⟨ty⟩⟩, .string ⟨⟨cl⟩⟩, .string ⟨⟨nm⟩⟩] 45) := ⟨_, rfl⟩
  have hal : Below w.heap.size w w1 := by rw [hw1]; exact bl_alloc (Below.refl _ _) _
  have HX1 := Lib.hid (show Blk w1 w.heap.size 45 #[.int .i64 21, .int .i64 ia, .int .i64 ib, .string ⟨⟨ty⟩⟩, .string ⟨⟨cl⟩⟩, .string ⟨⟨nm⟩⟩] by rw [hw1]; exact blk_new _ _ _ _ rfl)
  have HG1 := Lib.hid (gb_below (gb_refl w c) hal)
  have HB1 := Lib.hid (hb.trans (hal.mono hb.size))
  have HS1 := Lib.hid (hs.below hal)
  have HW := Lib.hid hW
  have HB := Lib.hid hb
  have HCB := Lib.hid hs.cB
  have hwc : w.heap.size ≠ c := by have := hs.lt; omega
  have HE := Lib.hid (show heapF (wl l) fr ⟨21, ia, ib, ty, cl, nm⟩ f = if kindErr (wl l) ty ≠ 0 then none else (takeF (wl l) [ty] f).elim none fun g => arrF (wl l) ty g by unfold heapF; simp)
  have HKN := Lib.hid (known_calls l L b c w0.heap.size fr gv f ty w0 w1 HW.out rfl HB1.out HS1.out (by omega))
  by_cases hkt : kindErr (wl l) ty = 0
  rotate_left
  · rw [if_neg hkt] at HKN
    have HK0 := Lib.hid hkt
    have e0 := HX1.out.cell 0
    have e3 := HX1.out.cell 3
    have el := HX1.out.lt
    clear hW hb hs hal hkt 
    go_enter Tryz.func79, Tryz.ntmps79
    go_upto_region 1 with fail
    rw [← hw1]
    clear hw1
    go_wp2_with fail
    refine HKN.out.mono ?_
    rintro e w2 ⟨rfl, hb2⟩
    have HB2 := Lib.hid (HB1.out.trans (hb2.mono HB1.out.size))
    clear hb2
    go_wp2_with fail
    exact ⟨rfl, HB2.out, Or.inl ⟨by rw [HE.out, if_pos HK0.out], rfl⟩⟩
  rw [if_pos hkt] at HKN
  have HKT := Lib.hid hkt
  have e0 := HX1.out.cell 0
  have e3 := HX1.out.cell 3
  have el := HX1.out.lt
  clear hW hb hs hal hkt 
  go_enter Tryz.func79, Tryz.ntmps79
  go_upto_region 1 with fail
  rw [← hw1]
  clear hw1
  go_wp2_with fail
  refine HKN.out.mono ?_
  rintro e w2 ⟨rfl, hb2⟩
  have HB2 := Lib.hid (HB1.out.trans (hb2.mono HB1.out.size))
  have HS2 := Lib.hid (HS1.out.below hb2)
  have HX2 := Lib.hid (HX1.out.below hb2)
  clear hb2
  clear e0 e3 el
  have e0 := HX2.out.cell 0
  have e3 := HX2.out.cell 3
  have el := HX2.out.lt
  go_wp2_with fail
  refine (take1 l L b c fr gv f ty w0 _ HW.out HB2.out HS2.out (by omega)).mono ?_
  rintro e w3 ⟨hg3, ⟨hn3, rfl⟩ | ⟨f3, hn3, rfl, hs3⟩⟩
  · have HB3 := Lib.hid (gb_to_below HB2.out hg3 HCB.out)
    have HN3 := Lib.hid hn3
    clear hg3 hn3
    go_wp2_with fail
    exact ⟨rfl, HB3.out, Or.inl ⟨by simp [putO, HE.out, HKT.out, HN3.out], rfl⟩⟩
  have HN3 := Lib.hid hn3
  have HS3 := Lib.hid hs3
  have HB3 := Lib.hid (gb_to_below HB2.out hg3 HCB.out)
  have HX3 := Lib.hid (gb_blk hg3 HX2.out hwc)
  clear hg3 hn3 hs3
  clear e0 e3 el
  have e0 := HX3.out.cell 0
  have e3 := HX3.out.cell 3
  have el := HX3.out.lt
  go_wp2_with fail
  refine (array_calls_stp l L b c fr gv f3 ty w0 _ HW.out HB3.out HS3.out (by omega)).mono ?_
  rintro e w4 ⟨hg4, ⟨hn4, rfl⟩ | ⟨f4, hn4, rfl, hs4⟩⟩
  · have HB4 := Lib.hid (gb_to_below HB3.out hg4 HCB.out)
    have HN4 := Lib.hid hn4
    clear hg4 hn4
    go_wp2_with fail
    exact ⟨rfl, HB4.out, Or.inl ⟨by simp [putO, HE.out, HKT.out, HN3.out, HN4.out], rfl⟩⟩
  have HN4 := Lib.hid hn4
  have HS4 := Lib.hid hs4
  have HB4 := Lib.hid (gb_to_below HB3.out hg4 HCB.out)
  have HX4 := Lib.hid (gb_blk hg4 HX3.out hwc)
  clear hg4 hn4 hs4
  clear e0 e3 el
  have e0 := HX4.out.cell 0
  have e3 := HX4.out.cell 3
  have el := HX4.out.lt
  go_wp2_with fail
  go_end0
  exact ⟨HB4.out, Or.inr ⟨_, by simp [putO, HE.out, HKT.out, HN3.out, HN4.out], rfl, HS4.out⟩⟩

set_option maxRecDepth 100000 in
set_option maxHeartbeats 4000000 in
theorem heap_22 (l : List ClassR) (L : List CP) (b c : Nat) (fr gv : Nm) (f : FrR) (ia ib : Int) (ty cl nm : Nm) (w0 w : World) (hW : WOk w0 b l L) (hb : Below w0.heap.size w0 w) (hs : Stp (wl l) w w0.heap.size c b fr gv f) (hl : ty.length ≤ 8388607) :
    Calls Tryz.prog 79 #[.pointer (some ⟨c, 0, none⟩), .agg #[.int .i64 (22), .int .i64 ia, .int .i64 ib, .string ⟨⟨ty⟩⟩, .string ⟨⟨cl⟩⟩, .string ⟨⟨nm⟩⟩]] w (StRes (wl l) (heapF (wl l) fr ⟨22, ia, ib, ty, cl, nm⟩ f) w0.heap.size c b fr gv w0) := by
  obtain ⟨w1, hw1⟩ : ∃ w1, w1 = w.alloc (.cells #[.int .i64 22, .int .i64 ia, .int .i64 ib, .string ⟨⟨ty⟩⟩, .string ⟨⟨cl⟩⟩, .string ⟨⟨nm⟩⟩] 45) := ⟨_, rfl⟩
  have hal : Below w.heap.size w w1 := by rw [hw1]; exact bl_alloc (Below.refl _ _) _
  have HX1 := Lib.hid (show Blk w1 w.heap.size 45 #[.int .i64 22, .int .i64 ia, .int .i64 ib, .string ⟨⟨ty⟩⟩, .string ⟨⟨cl⟩⟩, .string ⟨⟨nm⟩⟩] by rw [hw1]; exact blk_new _ _ _ _ rfl)
  have HG1 := Lib.hid (gb_below (gb_refl w c) hal)
  have HB1 := Lib.hid (hb.trans (hal.mono hb.size))
  have HS1 := Lib.hid (hs.below hal)
  have HW := Lib.hid hW
  have HB := Lib.hid hb
  have HCB := Lib.hid hs.cB
  have hwc : w.heap.size ≠ c := by have := hs.lt; omega
  have HE := Lib.hid (show heapF (wl l) fr ⟨22, ia, ib, ty, cl, nm⟩ f = if kindErr (wl l) ty ≠ 0 then none else (refF f).elim none fun p => putF p.2 ty by unfold heapF; simp)
  have HKN := Lib.hid (known_calls l L b c w0.heap.size fr gv f ty w0 w1 HW.out rfl HB1.out HS1.out (by omega))
  by_cases hkt : kindErr (wl l) ty = 0
  rotate_left
  · rw [if_neg hkt] at HKN
    have HK0 := Lib.hid hkt
    have e0 := HX1.out.cell 0
    have e3 := HX1.out.cell 3
    have el := HX1.out.lt
    clear hW hb hs hal hkt 
    go_enter Tryz.func79, Tryz.ntmps79
    go_upto_region 1 with fail
    rw [← hw1]
    clear hw1
    go_wp2_with fail
    refine HKN.out.mono ?_
    rintro e w2 ⟨rfl, hb2⟩
    have HB2 := Lib.hid (HB1.out.trans (hb2.mono HB1.out.size))
    clear hb2
    go_wp2_with fail
    exact ⟨rfl, HB2.out, Or.inl ⟨by rw [HE.out, if_pos HK0.out], rfl⟩⟩
  rw [if_pos hkt] at HKN
  have HKT := Lib.hid hkt
  have e0 := HX1.out.cell 0
  have e3 := HX1.out.cell 3
  have el := HX1.out.lt
  clear hW hb hs hal hkt 
  go_enter Tryz.func79, Tryz.ntmps79
  go_upto_region 1 with fail
  rw [← hw1]
  clear hw1
  go_wp2_with fail
  refine HKN.out.mono ?_
  rintro e w2 ⟨rfl, hb2⟩
  have HB2 := Lib.hid (HB1.out.trans (hb2.mono HB1.out.size))
  have HS2 := Lib.hid (HS1.out.below hb2)
  have HX2 := Lib.hid (HX1.out.below hb2)
  clear hb2
  clear e0 e3 el
  have e0 := HX2.out.cell 0
  have e3 := HX2.out.cell 3
  have el := HX2.out.lt
  go_wp2_with fail
  refine (ref_calls (wl l) b c w0.heap.size fr gv f _ HS2.out).mono ?_
  rintro e w3 ⟨hg3, ⟨hn3, rfl⟩ | ⟨k3, f3, hn3, rfl, hs3⟩⟩
  · have HB3 := Lib.hid (gb_to_below HB2.out hg3 HCB.out)
    have HN3 := Lib.hid hn3
    clear hg3 hn3
    go_wp2_with fail
    exact ⟨rfl, HB3.out, Or.inl ⟨by simp [putO, HE.out, HKT.out, HN3.out], rfl⟩⟩
  have HN3 := Lib.hid hn3
  have HS3 := Lib.hid hs3
  have HB3 := Lib.hid (gb_to_below HB2.out hg3 HCB.out)
  have HX3 := Lib.hid (gb_blk hg3 HX2.out hwc)
  clear hg3 hn3 hs3
  clear e0 e3 el
  have e0 := HX3.out.cell 0
  have e3 := HX3.out.cell 3
  have el := HX3.out.lt
  go_wp2_with fail
  refine (put_calls (wl l) b c w0.heap.size fr gv f3 ty w0 _ HB3.out HB3.out.size HS3.out HKT.out).mono ?_
  rintro e w4 ⟨hb4, ⟨hn4, rfl⟩ | ⟨f4, hn4, rfl, hs4⟩⟩
  · have HB4 := Lib.hid (hb4)
    have HN4 := Lib.hid hn4
    clear hb4 hn4
    go_wp2_with fail
    exact ⟨rfl, HB4.out, Or.inl ⟨by simp [putO, HE.out, HKT.out, HN3.out, HN4.out], rfl⟩⟩
  have HN4 := Lib.hid hn4
  have HS4 := Lib.hid hs4
  have HB4 := Lib.hid hb4
  clear hb4 hn4 hs4
  clear e0 e3 el
  go_wp2_with fail
  go_end0
  exact ⟨HB4.out, Or.inr ⟨_, by simp [putO, HE.out, HKT.out, HN3.out, HN4.out], rfl, HS4.out⟩⟩

set_option maxRecDepth 100000 in
set_option maxHeartbeats 4000000 in
theorem heap_24 (l : List ClassR) (L : List CP) (b c : Nat) (fr gv : Nm) (f : FrR) (ia ib : Int) (ty cl nm : Nm) (w0 w : World) (hW : WOk w0 b l L) (hb : Below w0.heap.size w0 w) (hs : Stp (wl l) w w0.heap.size c b fr gv f) (hcl : cl.length ≤ 20) (hfr : fr.length ≤ 1048576) (hty : ty.length ≤ 1048576) (hmo : ∃ A g, MethodOk ty A g) :
    Calls Tryz.prog 79 #[.pointer (some ⟨c, 0, none⟩), .agg #[.int .i64 (24), .int .i64 ia, .int .i64 ib, .string ⟨⟨ty⟩⟩, .string ⟨⟨cl⟩⟩, .string ⟨⟨nm⟩⟩]] w (StRes (wl l) (heapF (wl l) fr ⟨24, ia, ib, ty, cl, nm⟩ f) w0.heap.size c b fr gv w0) := by
  obtain ⟨w1, hw1⟩ : ∃ w1, w1 = w.alloc (.cells #[.int .i64 24, .int .i64 ia, .int .i64 ib, .string ⟨⟨ty⟩⟩, .string ⟨⟨cl⟩⟩, .string ⟨⟨nm⟩⟩] 45) := ⟨_, rfl⟩
  have hal : Below w.heap.size w w1 := by rw [hw1]; exact bl_alloc (Below.refl _ _) _
  have HX1 := Lib.hid (show Blk w1 w.heap.size 45 #[.int .i64 24, .int .i64 ia, .int .i64 ib, .string ⟨⟨ty⟩⟩, .string ⟨⟨cl⟩⟩, .string ⟨⟨nm⟩⟩] by rw [hw1]; exact blk_new _ _ _ _ rfl)
  have HG1 := Lib.hid (gb_below (gb_refl w c) hal)
  have HB1 := Lib.hid (hb.trans (hal.mono hb.size))
  have HS1 := Lib.hid (hs.below hal)
  have HW := Lib.hid hW
  have HB := Lib.hid hb
  have HCB := Lib.hid hs.cB
  have hwc : w.heap.size ≠ c := by have := hs.lt; omega
  have HE := Lib.hid (show heapF (wl l) fr ⟨24, ia, ib, ty, cl, nm⟩ f = callF (wl l) fr ⟨24, ia, ib, ty, cl, nm⟩ false f by unfold heapF; simp)
  have HCC := Lib.hid (fun W (hw : Below w0.heap.size w0 W) (hs : Stp (wl l) W w0.heap.size c b fr gv f) => show Calls Tryz.prog 131 #[.pointer (some ⟨c, 0, none⟩), .agg #[.int .i64 24, .int .i64 ia, .int .i64 ib, .string ⟨⟨ty⟩⟩, .string ⟨⟨cl⟩⟩, .string ⟨⟨nm⟩⟩], .bool false] W _ from call_calls_stp l L b c fr gv f ⟨24, ia, ib, ty, cl, nm⟩ false w0 W hW hw hs hcl hfr hty hmo)
  have e0 := HX1.out.cell 0
  have e1 := HX1.out.cell 1
  have e2 := HX1.out.cell 2
  have e3 := HX1.out.cell 3
  have e4 := HX1.out.cell 4
  have e5 := HX1.out.cell 5
  have el := HX1.out.lt
  clear hW hb hs hal hcl hfr hty hmo
  go_enter Tryz.func79, Tryz.ntmps79
  go_upto_region 1 with fail
  rw [← hw1]
  clear hw1
  go_wp2_with fail
  refine (HCC.out _ HB1.out HS1.out).mono ?_
  rintro e w2 ⟨hb2, ⟨hn2, rfl⟩ | ⟨f2, hn2, rfl, hs2⟩⟩
  · have HB2 := Lib.hid (hb2)
    have HN2 := Lib.hid hn2
    clear hb2 hn2
    go_wp2_with fail
    exact ⟨rfl, HB2.out, Or.inl ⟨by simp [putO, HE.out, HN2.out], rfl⟩⟩
  have HN2 := Lib.hid hn2
  have HS2 := Lib.hid hs2
  have HB2 := Lib.hid hb2
  clear hb2 hn2 hs2
  clear e0 e1 e2 e3 e4 e5 el
  go_wp2_with fail
  go_end0
  exact ⟨HB2.out, Or.inr ⟨_, by simp [putO, HE.out, HN2.out], rfl, HS2.out⟩⟩

set_option maxRecDepth 100000 in
set_option maxHeartbeats 4000000 in
theorem heap_25 (l : List ClassR) (L : List CP) (b c : Nat) (fr gv : Nm) (f : FrR) (ia ib : Int) (ty cl nm : Nm) (w0 w : World) (hW : WOk w0 b l L) (hb : Below w0.heap.size w0 w) (hs : Stp (wl l) w w0.heap.size c b fr gv f) (hcl : cl.length ≤ 20) (hfr : fr.length ≤ 1048576) (hty : ty.length ≤ 1048576) (hmo : ∃ A g, MethodOk ty A g) :
    Calls Tryz.prog 79 #[.pointer (some ⟨c, 0, none⟩), .agg #[.int .i64 (25), .int .i64 ia, .int .i64 ib, .string ⟨⟨ty⟩⟩, .string ⟨⟨cl⟩⟩, .string ⟨⟨nm⟩⟩]] w (StRes (wl l) (heapF (wl l) fr ⟨25, ia, ib, ty, cl, nm⟩ f) w0.heap.size c b fr gv w0) := by
  obtain ⟨w1, hw1⟩ : ∃ w1, w1 = w.alloc (.cells #[.int .i64 25, .int .i64 ia, .int .i64 ib, .string ⟨⟨ty⟩⟩, .string ⟨⟨cl⟩⟩, .string ⟨⟨nm⟩⟩] 45) := ⟨_, rfl⟩
  have hal : Below w.heap.size w w1 := by rw [hw1]; exact bl_alloc (Below.refl _ _) _
  have HX1 := Lib.hid (show Blk w1 w.heap.size 45 #[.int .i64 25, .int .i64 ia, .int .i64 ib, .string ⟨⟨ty⟩⟩, .string ⟨⟨cl⟩⟩, .string ⟨⟨nm⟩⟩] by rw [hw1]; exact blk_new _ _ _ _ rfl)
  have HG1 := Lib.hid (gb_below (gb_refl w c) hal)
  have HB1 := Lib.hid (hb.trans (hal.mono hb.size))
  have HS1 := Lib.hid (hs.below hal)
  have HW := Lib.hid hW
  have HB := Lib.hid hb
  have HCB := Lib.hid hs.cB
  have hwc : w.heap.size ≠ c := by have := hs.lt; omega
  have HE := Lib.hid (show heapF (wl l) fr ⟨25, ia, ib, ty, cl, nm⟩ f = callF (wl l) fr ⟨25, ia, ib, ty, cl, nm⟩ true f by unfold heapF; simp)
  have HCC := Lib.hid (fun W (hw : Below w0.heap.size w0 W) (hs : Stp (wl l) W w0.heap.size c b fr gv f) => show Calls Tryz.prog 131 #[.pointer (some ⟨c, 0, none⟩), .agg #[.int .i64 25, .int .i64 ia, .int .i64 ib, .string ⟨⟨ty⟩⟩, .string ⟨⟨cl⟩⟩, .string ⟨⟨nm⟩⟩], .bool true] W _ from call_calls_stp l L b c fr gv f ⟨25, ia, ib, ty, cl, nm⟩ true w0 W hW hw hs hcl hfr hty hmo)
  have e0 := HX1.out.cell 0
  have e1 := HX1.out.cell 1
  have e2 := HX1.out.cell 2
  have e3 := HX1.out.cell 3
  have e4 := HX1.out.cell 4
  have e5 := HX1.out.cell 5
  have el := HX1.out.lt
  clear hW hb hs hal hcl hfr hty hmo
  go_enter Tryz.func79, Tryz.ntmps79
  go_upto_region 1 with fail
  rw [← hw1]
  clear hw1
  go_wp2_with fail
  refine (HCC.out _ HB1.out HS1.out).mono ?_
  rintro e w2 ⟨hb2, ⟨hn2, rfl⟩ | ⟨f2, hn2, rfl, hs2⟩⟩
  · have HB2 := Lib.hid (hb2)
    have HN2 := Lib.hid hn2
    clear hb2 hn2
    go_wp2_with fail
    exact ⟨rfl, HB2.out, Or.inl ⟨by simp [putO, HE.out, HN2.out], rfl⟩⟩
  have HN2 := Lib.hid hn2
  have HS2 := Lib.hid hs2
  have HB2 := Lib.hid hb2
  clear hb2 hn2 hs2
  clear e0 e1 e2 e3 e4 e5 el
  go_wp2_with fail
  go_end0
  exact ⟨HB2.out, Or.inr ⟨_, by simp [putO, HE.out, HN2.out], rfl, HS2.out⟩⟩

set_option maxRecDepth 100000 in
set_option maxHeartbeats 4000000 in
theorem heap_skip (l : List ClassR) (L : List CP) (b c : Nat) (fr gv : Nm) (f : FrR) (op ia ib : Int) (ty cl nm : Nm) (w0 w : World) (hW : WOk w0 b l L) (hb : Below w0.heap.size w0 w) (hs : Stp (wl l) w w0.heap.size c b fr gv f) (h15 : op ≠ 15) (h16 : op ≠ 16) (h17 : op ≠ 17) (h18 : op ≠ 18) (h19 : op ≠ 19) (h20 : op ≠ 20) (h21 : op ≠ 21) (h22 : op ≠ 22) (h23 : op ≠ 23) (h24 : op ≠ 24) (h25 : op ≠ 25) :
    Calls Tryz.prog 79 #[.pointer (some ⟨c, 0, none⟩), .agg #[.int .i64 op, .int .i64 ia, .int .i64 ib, .string ⟨⟨ty⟩⟩, .string ⟨⟨cl⟩⟩, .string ⟨⟨nm⟩⟩]] w (StRes (wl l) (heapF (wl l) fr ⟨op, ia, ib, ty, cl, nm⟩ f) w0.heap.size c b fr gv w0) := by
  obtain ⟨w1, hw1⟩ : ∃ w1, w1 = w.alloc (.cells #[.int .i64 op, .int .i64 ia, .int .i64 ib, .string ⟨⟨ty⟩⟩, .string ⟨⟨cl⟩⟩, .string ⟨⟨nm⟩⟩] 45) := ⟨_, rfl⟩
  have hal : Below w.heap.size w w1 := by rw [hw1]; exact bl_alloc (Below.refl _ _) _
  have HX1 := Lib.hid (show Blk w1 w.heap.size 45 #[.int .i64 op, .int .i64 ia, .int .i64 ib, .string ⟨⟨ty⟩⟩, .string ⟨⟨cl⟩⟩, .string ⟨⟨nm⟩⟩] by rw [hw1]; exact blk_new _ _ _ _ rfl)
  have HG1 := Lib.hid (gb_below (gb_refl w c) hal)
  have HB1 := Lib.hid (hb.trans (hal.mono hb.size))
  have HS1 := Lib.hid (hs.below hal)
  have HW := Lib.hid hW
  have HB := Lib.hid hb
  have HCB := Lib.hid hs.cB
  have hwc : w.heap.size ≠ c := by have := hs.lt; omega
  have HE := Lib.hid (show heapF (wl l) fr ⟨op, ia, ib, ty, cl, nm⟩ f = some f by unfold heapF; simp [h15, h16, h17, h18, h19, h20, h21, h22, h23, h24, h25])
  have q15 : (op == 15) = false := by rw [beq_eq_false_iff_ne]; exact h15
  have q16 : (op == 16) = false := by rw [beq_eq_false_iff_ne]; exact h16
  have q17 : (op == 17) = false := by rw [beq_eq_false_iff_ne]; exact h17
  have q18 : (op == 18) = false := by rw [beq_eq_false_iff_ne]; exact h18
  have q19 : (op == 19) = false := by rw [beq_eq_false_iff_ne]; exact h19
  have q20 : (op == 20) = false := by rw [beq_eq_false_iff_ne]; exact h20
  have q21 : (op == 21) = false := by rw [beq_eq_false_iff_ne]; exact h21
  have q22 : (op == 22) = false := by rw [beq_eq_false_iff_ne]; exact h22
  have q23 : (op == 23) = false := by rw [beq_eq_false_iff_ne]; exact h23
  have q24 : (op == 24) = false := by rw [beq_eq_false_iff_ne]; exact h24
  have q25 : (op == 25) = false := by rw [beq_eq_false_iff_ne]; exact h25
  have e0 := HX1.out.cell 0
  have el := HX1.out.lt
  clear hW hb hs hal h15 h16 h17 h18 h19 h20 h21 h22 h23 h24 h25
  go_enter Tryz.func79, Tryz.ntmps79
  go_upto_region 1 with fail
  rw [← hw1]
  clear hw1
  go_wp2_with fail
  go_end0
  exact ⟨HB1.out, Or.inr ⟨_, HE.out, rfl, HS1.out⟩⟩
end Go.Proofs.YtanjggdmgeedlaaGreatDoor
