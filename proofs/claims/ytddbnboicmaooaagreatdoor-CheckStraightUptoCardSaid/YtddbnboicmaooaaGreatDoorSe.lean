import Derived.Test.YtddbnboicmaooaaGreatDoorSd
namespace Go.Proofs.YtddbnboicmaooaaGreatDoor
set_option maxRecDepth 100000
set_option maxHeartbeats 16000000
set_option linter.unusedVariables false
set_option linter.unusedSimpArgs false
open Go.RowKit Go.Shelf Go.Lib Go.Sort
def otherN (t : Nm) : Nm := if t = [73] then [74] else [73]
def putO (r : Option FrR) (k : Nm) : Option FrR := r.elim none fun g => putF g k
noncomputable def mathF (L : List ClassR) (a : Int) (ty : Nm) (f : FrR) : Option FrR := if a = 12 then some f else if a = 9 ∨ a = 10 ∨ a = 11 then takeF L [[73]] f else takeF L [ty] f
noncomputable def plainF (L : List ClassR) (gv : Nm) (x : InsR) (f : FrR) : Option FrR :=
 if x.op = 2 then putF f x.ty
 else if x.op = 3 then putF f [78]
 else if x.op = 4 then (f.loc[x.a.toNat]?).elim none fun k => if k = [84] then none else putF f k
 else if x.op = 5 then (popF f).elim none fun p => if x.a.toNat < p.2.loc.length then some ⟨p.2.loc.set x.a.toNat p.1, p.2.st⟩ else none
 else if x.op = 6 then (popF f).map (·.2)
 else if x.op = 7 then (popF f).elim none fun p => putO (putF p.2 p.1) p.1
 else if x.op = 8 then (popF f).elim none fun p => (popF p.2).elim none fun q => putO (putF q.2 p.1) q.1
 else if x.op = 9 then (mathF L x.a x.ty f).elim none fun g => putO (takeF L [x.ty] g) x.ty
 else if x.op = 10 then putO (takeF L [otherN x.ty] f) x.ty
 else if x.op = 11 then putO (takeF L [[74], [74]] f) [73]
 else if x.op = 12 then takeF L [[73]] f
 else if x.op = 13 then (refF f).map (·.2)
 else if x.op = 26 then (if gv = [86] then some f else none)
 else if x.op = 27 then (if gv = [86] then none else takeF L [gv] f)
 else if x.op = 28 then takeF L [thing fltN] f
 else some f
theorem kd_int (L : List ClassR) : kindErr L [73] = 0 := kind_ok (k := .ty 0 .int) ⟨by omega, trivial⟩
theorem kd_nul (L : List ClassR) : kindErr L [78] = 0 := kind_nt (Or.inl rfl)
theorem kd_num2 (L : List ClassR) {t : Nm} (h : numB t = true) : kindErr L t = 0 ∧ t.length ≤ 8388608 := by
 unfold numB at h
 rw [Bool.or_eq_true, beq_iff_eq, beq_iff_eq] at h
 rcases h with rfl | rfl
 · exact ⟨kd_int L, by simp⟩
 · exact ⟨kind_ok (k := .ty 0 .long) ⟨by omega, trivial⟩, by simp⟩
theorem plain_2 (l : List ClassR) (L : List CP) (b c : Nat) (fr gv : Nm) (f : FrR) (ia ib : Int) (ty cl nm : Nm) (w0 w : World) (hW : WOk w0 b l L) (hb : Below w0.heap.size w0 w) (hs : Stp (wl l) w w0.heap.size c b fr gv f) (hn : numB ty = true) :
   Calls Tryz.prog 93 #[.pointer (some ⟨c, 0, none⟩), .agg #[.int .i64 (2), .int .i64 ia, .int .i64 ib, .string ⟨⟨ty⟩⟩, .string ⟨⟨cl⟩⟩, .string ⟨⟨nm⟩⟩]] w (StRes (wl l) (plainF (wl l) gv ⟨2, ia, ib, ty, cl, nm⟩ f) w0.heap.size c b fr gv w0) := by
 obtain ⟨w1, hw1⟩ : ∃ w1, w1 = w.alloc (.cells #[.int .i64 2, .int .i64 ia, .int .i64 ib, .string ⟨⟨ty⟩⟩, .string ⟨⟨cl⟩⟩, .string ⟨⟨nm⟩⟩] 40) := ⟨_, rfl⟩
 have hal : Below w.heap.size w w1 := by rw [hw1]; exact bl_alloc (Below.refl _ _) _
 have HX1 := Hd (show Blk w1 w.heap.size 40 #[.int .i64 2, .int .i64 ia, .int .i64 ib, .string ⟨⟨ty⟩⟩, .string ⟨⟨cl⟩⟩, .string ⟨⟨nm⟩⟩] by rw [hw1]; exact blk_new _ _ _ _ rfl)
 have HG1 := Hd (gb_below (gb_refl w c) hal)
 have HB1 := Hd (hb.trans (hal.mono hb.size))
 have HS1 := Hd (hs.below hal)
 have HW := Hd hW
 have HB := Hd hb
 have HCB := Hd hs.cB
 have hwc : w.heap.size ≠ c := by have := hs.lt; omega
 have HN := Hd (kd_num2 (wl l) hn)
 have HE := Hd (show plainF (wl l) gv ⟨2, ia, ib, ty, cl, nm⟩ f = putF f ty by unfold plainF; simp)
 have e0 := HX1.out.cell 0
 have e3 := HX1.out.cell 3
 have el := HX1.out.lt
 clear hW hb hs hal 
 go_enter Tryz.func93, Tryz.ntmps93
 go_upto_region 1 with fail
 rw [← hw1]
 clear hw1
 go_wp2_with fail
 refine (put_calls (wl l) b c w0.heap.size fr gv f ty w0 _ HB1.out HB1.out.size HS1.out HN.out.1).mono ?_
 rintro e w2 ⟨hb2, ⟨hn2, rfl⟩ | ⟨f2, hn2, rfl, hs2⟩⟩
 · have HB2 := Hd (hb2)
   have HN2 := Hd hn2
   clear hb2 hn2
   go_wp2_with fail
   exact ⟨rfl, HB2.out, Or.inl ⟨by simp [putO, HE.out, HN2.out], rfl⟩⟩
 have HN2 := Hd hn2
 have HS2 := Hd hs2
 have HB2 := Hd hb2
 clear hb2 hn2 hs2
 clear e0 e3 el
 go_wp2_with fail
 go_end0
 exact ⟨HB2.out, Or.inr ⟨_, by simp [putO, HE.out, HN2.out], rfl, HS2.out⟩⟩
theorem plain_3 (l : List ClassR) (L : List CP) (b c : Nat) (fr gv : Nm) (f : FrR) (ia ib : Int) (ty cl nm : Nm) (w0 w : World) (hW : WOk w0 b l L) (hb : Below w0.heap.size w0 w) (hs : Stp (wl l) w w0.heap.size c b fr gv f) :
   Calls Tryz.prog 93 #[.pointer (some ⟨c, 0, none⟩), .agg #[.int .i64 (3), .int .i64 ia, .int .i64 ib, .string ⟨⟨ty⟩⟩, .string ⟨⟨cl⟩⟩, .string ⟨⟨nm⟩⟩]] w (StRes (wl l) (plainF (wl l) gv ⟨3, ia, ib, ty, cl, nm⟩ f) w0.heap.size c b fr gv w0) := by
 obtain ⟨w1, hw1⟩ : ∃ w1, w1 = w.alloc (.cells #[.int .i64 3, .int .i64 ia, .int .i64 ib, .string ⟨⟨ty⟩⟩, .string ⟨⟨cl⟩⟩, .string ⟨⟨nm⟩⟩] 40) := ⟨_, rfl⟩
 have hal : Below w.heap.size w w1 := by rw [hw1]; exact bl_alloc (Below.refl _ _) _
 have HX1 := Hd (show Blk w1 w.heap.size 40 #[.int .i64 3, .int .i64 ia, .int .i64 ib, .string ⟨⟨ty⟩⟩, .string ⟨⟨cl⟩⟩, .string ⟨⟨nm⟩⟩] by rw [hw1]; exact blk_new _ _ _ _ rfl)
 have HG1 := Hd (gb_below (gb_refl w c) hal)
 have HB1 := Hd (hb.trans (hal.mono hb.size))
 have HS1 := Hd (hs.below hal)
 have HW := Hd hW
 have HB := Hd hb
 have HCB := Hd hs.cB
 have hwc : w.heap.size ≠ c := by have := hs.lt; omega
 have HE := Hd (show plainF (wl l) gv ⟨3, ia, ib, ty, cl, nm⟩ f = putF f [78] by unfold plainF; simp)
 have e0 := HX1.out.cell 0
 have el := HX1.out.lt
 clear hW hb hs hal 
 go_enter Tryz.func93, Tryz.ntmps93
 go_upto_region 1 with fail
 rw [← hw1]
 clear hw1
 go_wp2_with fail
 refine (put_calls (wl l) b c w0.heap.size fr gv f [78] w0 _ HB1.out HB1.out.size HS1.out (kd_nul _)).mono ?_
 rintro e w2 ⟨hb2, ⟨hn2, rfl⟩ | ⟨f2, hn2, rfl, hs2⟩⟩
 · have HB2 := Hd (hb2)
   have HN2 := Hd hn2
   clear hb2 hn2
   go_wp2_with fail
   exact ⟨rfl, HB2.out, Or.inl ⟨by simp [putO, HE.out, HN2.out], rfl⟩⟩
 have HN2 := Hd hn2
 have HS2 := Hd hs2
 have HB2 := Hd hb2
 clear hb2 hn2 hs2
 clear e0 el
 go_wp2_with fail
 go_end0
 exact ⟨HB2.out, Or.inr ⟨_, by simp [putO, HE.out, HN2.out], rfl, HS2.out⟩⟩
theorem plain_6 (l : List ClassR) (L : List CP) (b c : Nat) (fr gv : Nm) (f : FrR) (ia ib : Int) (ty cl nm : Nm) (w0 w : World) (hW : WOk w0 b l L) (hb : Below w0.heap.size w0 w) (hs : Stp (wl l) w w0.heap.size c b fr gv f) :
   Calls Tryz.prog 93 #[.pointer (some ⟨c, 0, none⟩), .agg #[.int .i64 (6), .int .i64 ia, .int .i64 ib, .string ⟨⟨ty⟩⟩, .string ⟨⟨cl⟩⟩, .string ⟨⟨nm⟩⟩]] w (StRes (wl l) (plainF (wl l) gv ⟨6, ia, ib, ty, cl, nm⟩ f) w0.heap.size c b fr gv w0) := by
 obtain ⟨w1, hw1⟩ : ∃ w1, w1 = w.alloc (.cells #[.int .i64 6, .int .i64 ia, .int .i64 ib, .string ⟨⟨ty⟩⟩, .string ⟨⟨cl⟩⟩, .string ⟨⟨nm⟩⟩] 40) := ⟨_, rfl⟩
 have hal : Below w.heap.size w w1 := by rw [hw1]; exact bl_alloc (Below.refl _ _) _
 have HX1 := Hd (show Blk w1 w.heap.size 40 #[.int .i64 6, .int .i64 ia, .int .i64 ib, .string ⟨⟨ty⟩⟩, .string ⟨⟨cl⟩⟩, .string ⟨⟨nm⟩⟩] by rw [hw1]; exact blk_new _ _ _ _ rfl)
 have HG1 := Hd (gb_below (gb_refl w c) hal)
 have HB1 := Hd (hb.trans (hal.mono hb.size))
 have HS1 := Hd (hs.below hal)
 have HW := Hd hW
 have HB := Hd hb
 have HCB := Hd hs.cB
 have hwc : w.heap.size ≠ c := by have := hs.lt; omega
 have HE := Hd (show plainF (wl l) gv ⟨6, ia, ib, ty, cl, nm⟩ f = (popF f).map (·.2) by unfold plainF; simp)
 have e0 := HX1.out.cell 0
 have el := HX1.out.lt
 clear hW hb hs hal 
 go_enter Tryz.func93, Tryz.ntmps93
 go_upto_region 1 with fail
 rw [← hw1]
 clear hw1
 go_wp2_with fail
 refine (pop_calls (wl l) b c w0.heap.size fr gv f _ HS1.out).mono ?_
 rintro e w2 ⟨hg2, ⟨hn2, rfl⟩ | ⟨k2, f2, hn2, rfl, hs2⟩⟩
 · have HB2 := Hd (gb_to_below HB1.out hg2 HCB.out)
   have HN2 := Hd hn2
   clear hg2 hn2
   go_wp2_with fail
   exact ⟨rfl, HB2.out, Or.inl ⟨by simp [putO, HE.out, HN2.out], rfl⟩⟩
 have HN2 := Hd hn2
 have HS2 := Hd hs2
 have HB2 := Hd (gb_to_below HB1.out hg2 HCB.out)
 have HX2 := Hd (gb_blk hg2 HX1.out hwc)
 clear hg2 hn2 hs2
 clear e0 el
 have e0 := HX2.out.cell 0
 have el := HX2.out.lt
 go_wp2_with fail
 go_end0
 exact ⟨HB2.out, Or.inr ⟨_, by simp [putO, HE.out, HN2.out], rfl, HS2.out⟩⟩
theorem plain_7 (l : List ClassR) (L : List CP) (b c : Nat) (fr gv : Nm) (f : FrR) (ia ib : Int) (ty cl nm : Nm) (w0 w : World) (hW : WOk w0 b l L) (hb : Below w0.heap.size w0 w) (hs : Stp (wl l) w w0.heap.size c b fr gv f) :
   Calls Tryz.prog 93 #[.pointer (some ⟨c, 0, none⟩), .agg #[.int .i64 (7), .int .i64 ia, .int .i64 ib, .string ⟨⟨ty⟩⟩, .string ⟨⟨cl⟩⟩, .string ⟨⟨nm⟩⟩]] w (StRes (wl l) (plainF (wl l) gv ⟨7, ia, ib, ty, cl, nm⟩ f) w0.heap.size c b fr gv w0) := by
 obtain ⟨w1, hw1⟩ : ∃ w1, w1 = w.alloc (.cells #[.int .i64 7, .int .i64 ia, .int .i64 ib, .string ⟨⟨ty⟩⟩, .string ⟨⟨cl⟩⟩, .string ⟨⟨nm⟩⟩] 40) := ⟨_, rfl⟩
 have hal : Below w.heap.size w w1 := by rw [hw1]; exact bl_alloc (Below.refl _ _) _
 have HX1 := Hd (show Blk w1 w.heap.size 40 #[.int .i64 7, .int .i64 ia, .int .i64 ib, .string ⟨⟨ty⟩⟩, .string ⟨⟨cl⟩⟩, .string ⟨⟨nm⟩⟩] by rw [hw1]; exact blk_new _ _ _ _ rfl)
 have HG1 := Hd (gb_below (gb_refl w c) hal)
 have HB1 := Hd (hb.trans (hal.mono hb.size))
 have HS1 := Hd (hs.below hal)
 have HW := Hd hW
 have HB := Hd hb
 have HCB := Hd hs.cB
 have hwc : w.heap.size ≠ c := by have := hs.lt; omega
 have HE := Hd (show plainF (wl l) gv ⟨7, ia, ib, ty, cl, nm⟩ f = (popF f).elim none fun p => putO (putF p.2 p.1) p.1 by unfold plainF; simp)
 have e0 := HX1.out.cell 0
 have el := HX1.out.lt
 clear hW hb hs hal 
 go_enter Tryz.func93, Tryz.ntmps93
 go_upto_region 1 with fail
 rw [← hw1]
 clear hw1
 go_wp2_with fail
 refine (pop_calls (wl l) b c w0.heap.size fr gv f _ HS1.out).mono ?_
 rintro e w2 ⟨hg2, ⟨hn2, rfl⟩ | ⟨k2, f2, hn2, rfl, hs2⟩⟩
 · have HB2 := Hd (gb_to_below HB1.out hg2 HCB.out)
   have HN2 := Hd hn2
   clear hg2 hn2
   go_wp2_with fail
   exact ⟨rfl, HB2.out, Or.inl ⟨by simp [putO, HE.out, HN2.out], rfl⟩⟩
 have HN2 := Hd hn2
 have HS2 := Hd hs2
 have HB2 := Hd (gb_to_below HB1.out hg2 HCB.out)
 have HX2 := Hd (gb_blk hg2 HX1.out hwc)
 clear hg2 hn2 hs2
 clear e0 el
 have e0 := HX2.out.cell 0
 have el := HX2.out.lt
 go_wp2_with fail
 have HK2 := Hd (HS1.out.kok.pop HN2.out).2.1
 refine (put_calls (wl l) b c w0.heap.size fr gv f2 k2 w0 _ HB2.out HB2.out.size HS2.out HK2.out).mono ?_
 rintro e w3 ⟨hb3, ⟨hn3, rfl⟩ | ⟨f3, hn3, rfl, hs3⟩⟩
 · have HB3 := Hd (hb3)
   have HN3 := Hd hn3
   clear hb3 hn3
   go_wp2_with fail
   exact ⟨rfl, HB3.out, Or.inl ⟨by simp [putO, HE.out, HN2.out, HN3.out], rfl⟩⟩
 have HN3 := Hd hn3
 have HS3 := Hd hs3
 have HB3 := Hd hb3
 clear hb3 hn3 hs3
 clear e0 el
 go_wp2_with fail
 refine (put_calls (wl l) b c w0.heap.size fr gv f3 k2 w0 _ HB3.out HB3.out.size HS3.out HK2.out).mono ?_
 rintro e w4 ⟨hb4, ⟨hn4, rfl⟩ | ⟨f4, hn4, rfl, hs4⟩⟩
 · have HB4 := Hd (hb4)
   have HN4 := Hd hn4
   clear hb4 hn4
   go_wp2_with fail
   exact ⟨rfl, HB4.out, Or.inl ⟨by simp [putO, HE.out, HN2.out, HN3.out, HN4.out], rfl⟩⟩
 have HN4 := Hd hn4
 have HS4 := Hd hs4
 have HB4 := Hd hb4
 clear hb4 hn4 hs4
 go_wp2_with fail
 go_end0
 exact ⟨HB4.out, Or.inr ⟨_, by simp [putO, HE.out, HN2.out, HN3.out, HN4.out], rfl, HS4.out⟩⟩
theorem plain_8 (l : List ClassR) (L : List CP) (b c : Nat) (fr gv : Nm) (f : FrR) (ia ib : Int) (ty cl nm : Nm) (w0 w : World) (hW : WOk w0 b l L) (hb : Below w0.heap.size w0 w) (hs : Stp (wl l) w w0.heap.size c b fr gv f) :
   Calls Tryz.prog 93 #[.pointer (some ⟨c, 0, none⟩), .agg #[.int .i64 (8), .int .i64 ia, .int .i64 ib, .string ⟨⟨ty⟩⟩, .string ⟨⟨cl⟩⟩, .string ⟨⟨nm⟩⟩]] w (StRes (wl l) (plainF (wl l) gv ⟨8, ia, ib, ty, cl, nm⟩ f) w0.heap.size c b fr gv w0) := by
 obtain ⟨w1, hw1⟩ : ∃ w1, w1 = w.alloc (.cells #[.int .i64 8, .int .i64 ia, .int .i64 ib, .string ⟨⟨ty⟩⟩, .string ⟨⟨cl⟩⟩, .string ⟨⟨nm⟩⟩] 40) := ⟨_, rfl⟩
 have hal : Below w.heap.size w w1 := by rw [hw1]; exact bl_alloc (Below.refl _ _) _
 have HX1 := Hd (show Blk w1 w.heap.size 40 #[.int .i64 8, .int .i64 ia, .int .i64 ib, .string ⟨⟨ty⟩⟩, .string ⟨⟨cl⟩⟩, .string ⟨⟨nm⟩⟩] by rw [hw1]; exact blk_new _ _ _ _ rfl)
 have HG1 := Hd (gb_below (gb_refl w c) hal)
 have HB1 := Hd (hb.trans (hal.mono hb.size))
 have HS1 := Hd (hs.below hal)
 have HW := Hd hW
 have HB := Hd hb
 have HCB := Hd hs.cB
 have hwc : w.heap.size ≠ c := by have := hs.lt; omega
 have HE := Hd (show plainF (wl l) gv ⟨8, ia, ib, ty, cl, nm⟩ f = (popF f).elim none fun p => (popF p.2).elim none fun q => putO (putF q.2 p.1) q.1 by unfold plainF; simp)
 have e0 := HX1.out.cell 0
 have el := HX1.out.lt
 clear hW hb hs hal 
 go_enter Tryz.func93, Tryz.ntmps93
 go_upto_region 1 with fail
 rw [← hw1]
 clear hw1
 go_wp2_with fail
 refine (pop_calls (wl l) b c w0.heap.size fr gv f _ HS1.out).mono ?_
 rintro e w2 ⟨hg2, ⟨hn2, rfl⟩ | ⟨k2, f2, hn2, rfl, hs2⟩⟩
 · have HB2 := Hd (gb_to_below HB1.out hg2 HCB.out)
   have HN2 := Hd hn2
   clear hg2 hn2
   go_wp2_with fail
   exact ⟨rfl, HB2.out, Or.inl ⟨by simp [putO, HE.out, HN2.out], rfl⟩⟩
 have HN2 := Hd hn2
 have HS2 := Hd hs2
 have HB2 := Hd (gb_to_below HB1.out hg2 HCB.out)
 have HX2 := Hd (gb_blk hg2 HX1.out hwc)
 clear hg2 hn2 hs2
 clear e0 el
 have e0 := HX2.out.cell 0
 have el := HX2.out.lt
 go_wp2_with fail
 refine (pop_calls (wl l) b c w0.heap.size fr gv f2 _ HS2.out).mono ?_
 rintro e w3 ⟨hg3, ⟨hn3, rfl⟩ | ⟨k3, f3, hn3, rfl, hs3⟩⟩
 · have HB3 := Hd (gb_to_below HB2.out hg3 HCB.out)
   have HN3 := Hd hn3
   clear hg3 hn3
   go_wp2_with fail
   exact ⟨rfl, HB3.out, Or.inl ⟨by simp [putO, HE.out, HN2.out, HN3.out], rfl⟩⟩
 have HN3 := Hd hn3
 have HS3 := Hd hs3
 have HB3 := Hd (gb_to_below HB2.out hg3 HCB.out)
 have HX3 := Hd (gb_blk hg3 HX2.out hwc)
 clear hg3 hn3 hs3
 clear e0 el
 have e0 := HX3.out.cell 0
 have el := HX3.out.lt
 go_wp2_with fail
 have HK2 := Hd (HS1.out.kok.pop HN2.out).2.1
 have HK3 := Hd (HS2.out.kok.pop HN3.out).2.1
 refine (put_calls (wl l) b c w0.heap.size fr gv f3 k2 w0 _ HB3.out HB3.out.size HS3.out HK2.out).mono ?_
 rintro e w4 ⟨hb4, ⟨hn4, rfl⟩ | ⟨f4, hn4, rfl, hs4⟩⟩
 · have HB4 := Hd (hb4)
   have HN4 := Hd hn4
   clear hb4 hn4
   go_wp2_with fail
   exact ⟨rfl, HB4.out, Or.inl ⟨by simp [putO, HE.out, HN2.out, HN3.out, HN4.out], rfl⟩⟩
 have HN4 := Hd hn4
 have HS4 := Hd hs4
 have HB4 := Hd hb4
 clear hb4 hn4 hs4
 clear e0 el
 go_wp2_with fail
 refine (put_calls (wl l) b c w0.heap.size fr gv f4 k3 w0 _ HB4.out HB4.out.size HS4.out HK3.out).mono ?_
 rintro e w5 ⟨hb5, ⟨hn5, rfl⟩ | ⟨f5, hn5, rfl, hs5⟩⟩
 · have HB5 := Hd (hb5)
   have HN5 := Hd hn5
   clear hb5 hn5
   go_wp2_with fail
   exact ⟨rfl, HB5.out, Or.inl ⟨by simp [putO, HE.out, HN2.out, HN3.out, HN4.out, HN5.out], rfl⟩⟩
 have HN5 := Hd hn5
 have HS5 := Hd hs5
 have HB5 := Hd hb5
 clear hb5 hn5 hs5
 go_wp2_with fail
 go_end0
 exact ⟨HB5.out, Or.inr ⟨_, by simp [putO, HE.out, HN2.out, HN3.out, HN4.out, HN5.out], rfl, HS5.out⟩⟩
theorem plain_9_12 (l : List ClassR) (L : List CP) (b c : Nat) (fr gv : Nm) (f : FrR) (ib : Int) (ty cl nm : Nm) (w0 w : World) (hW : WOk w0 b l L) (hb : Below w0.heap.size w0 w) (hs : Stp (wl l) w w0.heap.size c b fr gv f) (hn : numB ty = true) :
   Calls Tryz.prog 93 #[.pointer (some ⟨c, 0, none⟩), .agg #[.int .i64 (9), .int .i64 (12), .int .i64 ib, .string ⟨⟨ty⟩⟩, .string ⟨⟨cl⟩⟩, .string ⟨⟨nm⟩⟩]] w (StRes (wl l) (plainF (wl l) gv ⟨9, 12, ib, ty, cl, nm⟩ f) w0.heap.size c b fr gv w0) := by
 obtain ⟨w1, hw1⟩ : ∃ w1, w1 = w.alloc (.cells #[.int .i64 9, .int .i64 12, .int .i64 ib, .string ⟨⟨ty⟩⟩, .string ⟨⟨cl⟩⟩, .string ⟨⟨nm⟩⟩] 40) := ⟨_, rfl⟩
 have hal : Below w.heap.size w w1 := by rw [hw1]; exact bl_alloc (Below.refl _ _) _
 have HX1 := Hd (show Blk w1 w.heap.size 40 #[.int .i64 9, .int .i64 12, .int .i64 ib, .string ⟨⟨ty⟩⟩, .string ⟨⟨cl⟩⟩, .string ⟨⟨nm⟩⟩] by rw [hw1]; exact blk_new _ _ _ _ rfl)
 have HG1 := Hd (gb_below (gb_refl w c) hal)
 have HB1 := Hd (hb.trans (hal.mono hb.size))
 have HS1 := Hd (hs.below hal)
 have HW := Hd hW
 have HB := Hd hb
 have HCB := Hd hs.cB
 have hwc : w.heap.size ≠ c := by have := hs.lt; omega
 have HN := Hd (kd_num2 (wl l) hn)
 have HE := Hd (show plainF (wl l) gv ⟨9, 12, ib, ty, cl, nm⟩ f = (mathF (wl l) 12 ty f).elim none fun g => putO (takeF (wl l) [ty] g) ty by unfold plainF; simp)
 have HMF := Hd (show mathF (wl l) 12 ty f = some f by unfold mathF; simp)
 have e0 := HX1.out.cell 0
 have e1 := HX1.out.cell 1
 have e3 := HX1.out.cell 3
 have el := HX1.out.lt
 clear hW hb hs hal 
 go_enter Tryz.func93, Tryz.ntmps93
 go_upto_region 1 with fail
 rw [← hw1]
 clear hw1
 go_wp2_with fail
 refine (take1 l L b c fr gv f ty w0 _ HW.out HB1.out HS1.out HN.out.2).mono ?_
 rintro e w2 ⟨hg2, ⟨hn2, rfl⟩ | ⟨f2, hn2, rfl, hs2⟩⟩
 · have HB2 := Hd (gb_to_below HB1.out hg2 HCB.out)
   have HN2 := Hd hn2
   clear hg2 hn2
   go_wp2_with fail
   exact ⟨rfl, HB2.out, Or.inl ⟨by simp [putO, HE.out, HMF.out, HN2.out], rfl⟩⟩
 have HN2 := Hd hn2
 have HS2 := Hd hs2
 have HB2 := Hd (gb_to_below HB1.out hg2 HCB.out)
 have HX2 := Hd (gb_blk hg2 HX1.out hwc)
 clear hg2 hn2 hs2
 clear e0 e1 e3 el
 have e0 := HX2.out.cell 0
 have e1 := HX2.out.cell 1
 have e3 := HX2.out.cell 3
 have el := HX2.out.lt
 go_wp2_with fail
 refine (put_calls (wl l) b c w0.heap.size fr gv f2 ty w0 _ HB2.out HB2.out.size HS2.out HN.out.1).mono ?_
 rintro e w3 ⟨hb3, ⟨hn3, rfl⟩ | ⟨f3, hn3, rfl, hs3⟩⟩
 · have HB3 := Hd (hb3)
   have HN3 := Hd hn3
   clear hb3 hn3
   go_wp2_with fail
   exact ⟨rfl, HB3.out, Or.inl ⟨by simp [putO, HE.out, HMF.out, HN2.out, HN3.out], rfl⟩⟩
 have HN3 := Hd hn3
 have HS3 := Hd hs3
 have HB3 := Hd hb3
 clear hb3 hn3 hs3
 clear e0 e1 e3 el
 go_wp2_with fail
 go_end0
 exact ⟨HB3.out, Or.inr ⟨_, by simp [putO, HE.out, HMF.out, HN2.out, HN3.out], rfl, HS3.out⟩⟩
theorem plain_9_9 (l : List ClassR) (L : List CP) (b c : Nat) (fr gv : Nm) (f : FrR) (ib : Int) (ty cl nm : Nm) (w0 w : World) (hW : WOk w0 b l L) (hb : Below w0.heap.size w0 w) (hs : Stp (wl l) w w0.heap.size c b fr gv f) (hn : numB ty = true) :
   Calls Tryz.prog 93 #[.pointer (some ⟨c, 0, none⟩), .agg #[.int .i64 (9), .int .i64 (9), .int .i64 ib, .string ⟨⟨ty⟩⟩, .string ⟨⟨cl⟩⟩, .string ⟨⟨nm⟩⟩]] w (StRes (wl l) (plainF (wl l) gv ⟨9, 9, ib, ty, cl, nm⟩ f) w0.heap.size c b fr gv w0) := by
 obtain ⟨w1, hw1⟩ : ∃ w1, w1 = w.alloc (.cells #[.int .i64 9, .int .i64 9, .int .i64 ib, .string ⟨⟨ty⟩⟩, .string ⟨⟨cl⟩⟩, .string ⟨⟨nm⟩⟩] 40) := ⟨_, rfl⟩
 have hal : Below w.heap.size w w1 := by rw [hw1]; exact bl_alloc (Below.refl _ _) _
 have HX1 := Hd (show Blk w1 w.heap.size 40 #[.int .i64 9, .int .i64 9, .int .i64 ib, .string ⟨⟨ty⟩⟩, .string ⟨⟨cl⟩⟩, .string ⟨⟨nm⟩⟩] by rw [hw1]; exact blk_new _ _ _ _ rfl)
 have HG1 := Hd (gb_below (gb_refl w c) hal)
 have HB1 := Hd (hb.trans (hal.mono hb.size))
 have HS1 := Hd (hs.below hal)
 have HW := Hd hW
 have HB := Hd hb
 have HCB := Hd hs.cB
 have hwc : w.heap.size ≠ c := by have := hs.lt; omega
 have HN := Hd (kd_num2 (wl l) hn)
 have HE := Hd (show plainF (wl l) gv ⟨9, 9, ib, ty, cl, nm⟩ f = (mathF (wl l) 9 ty f).elim none fun g => putO (takeF (wl l) [ty] g) ty by unfold plainF; simp)
 have HMF := Hd (show mathF (wl l) 9 ty f = takeF (wl l) [[73]] f by unfold mathF; simp)
 have e0 := HX1.out.cell 0
 have e1 := HX1.out.cell 1
 have e3 := HX1.out.cell 3
 have el := HX1.out.lt
 clear hW hb hs hal 
 go_enter Tryz.func93, Tryz.ntmps93
 go_upto_region 1 with fail
 rw [← hw1]
 clear hw1
 go_wp2_with fail
 refine (take1 l L b c fr gv f [73] w0 _ HW.out HB1.out HS1.out (by decide)).mono ?_
 rintro e w2 ⟨hg2, ⟨hn2, rfl⟩ | ⟨f2, hn2, rfl, hs2⟩⟩
 · have HB2 := Hd (gb_to_below HB1.out hg2 HCB.out)
   have HN2 := Hd hn2
   clear hg2 hn2
   go_wp2_with fail
   exact ⟨rfl, HB2.out, Or.inl ⟨by simp [putO, HE.out, HMF.out, HN2.out], rfl⟩⟩
 have HN2 := Hd hn2
 have HS2 := Hd hs2
 have HB2 := Hd (gb_to_below HB1.out hg2 HCB.out)
 have HX2 := Hd (gb_blk hg2 HX1.out hwc)
 clear hg2 hn2 hs2
 clear e0 e1 e3 el
 have e0 := HX2.out.cell 0
 have e1 := HX2.out.cell 1
 have e3 := HX2.out.cell 3
 have el := HX2.out.lt
 go_wp2_with fail
 refine (take1 l L b c fr gv f2 ty w0 _ HW.out HB2.out HS2.out HN.out.2).mono ?_
 rintro e w3 ⟨hg3, ⟨hn3, rfl⟩ | ⟨f3, hn3, rfl, hs3⟩⟩
 · have HB3 := Hd (gb_to_below HB2.out hg3 HCB.out)
   have HN3 := Hd hn3
   clear hg3 hn3
   go_wp2_with fail
   exact ⟨rfl, HB3.out, Or.inl ⟨by simp [putO, HE.out, HMF.out, HN2.out, HN3.out], rfl⟩⟩
 have HN3 := Hd hn3
 have HS3 := Hd hs3
 have HB3 := Hd (gb_to_below HB2.out hg3 HCB.out)
 have HX3 := Hd (gb_blk hg3 HX2.out hwc)
 clear hg3 hn3 hs3
 clear e0 e1 e3 el
 have e0 := HX3.out.cell 0
 have e1 := HX3.out.cell 1
 have e3 := HX3.out.cell 3
 have el := HX3.out.lt
 go_wp2_with fail
 refine (put_calls (wl l) b c w0.heap.size fr gv f3 ty w0 _ HB3.out HB3.out.size HS3.out HN.out.1).mono ?_
 rintro e w4 ⟨hb4, ⟨hn4, rfl⟩ | ⟨f4, hn4, rfl, hs4⟩⟩
 · have HB4 := Hd (hb4)
   have HN4 := Hd hn4
   clear hb4 hn4
   go_wp2_with fail
   exact ⟨rfl, HB4.out, Or.inl ⟨by simp [putO, HE.out, HMF.out, HN2.out, HN3.out, HN4.out], rfl⟩⟩
 have HN4 := Hd hn4
 have HS4 := Hd hs4
 have HB4 := Hd hb4
 clear hb4 hn4 hs4
 clear e0 e1 e3 el
 go_wp2_with fail
 go_end0
 exact ⟨HB4.out, Or.inr ⟨_, by simp [putO, HE.out, HMF.out, HN2.out, HN3.out, HN4.out], rfl, HS4.out⟩⟩
theorem plain_9_10 (l : List ClassR) (L : List CP) (b c : Nat) (fr gv : Nm) (f : FrR) (ib : Int) (ty cl nm : Nm) (w0 w : World) (hW : WOk w0 b l L) (hb : Below w0.heap.size w0 w) (hs : Stp (wl l) w w0.heap.size c b fr gv f) (hn : numB ty = true) :
   Calls Tryz.prog 93 #[.pointer (some ⟨c, 0, none⟩), .agg #[.int .i64 (9), .int .i64 (10), .int .i64 ib, .string ⟨⟨ty⟩⟩, .string ⟨⟨cl⟩⟩, .string ⟨⟨nm⟩⟩]] w (StRes (wl l) (plainF (wl l) gv ⟨9, 10, ib, ty, cl, nm⟩ f) w0.heap.size c b fr gv w0) := by
 obtain ⟨w1, hw1⟩ : ∃ w1, w1 = w.alloc (.cells #[.int .i64 9, .int .i64 10, .int .i64 ib, .string ⟨⟨ty⟩⟩, .string ⟨⟨cl⟩⟩, .string ⟨⟨nm⟩⟩] 40) := ⟨_, rfl⟩
 have hal : Below w.heap.size w w1 := by rw [hw1]; exact bl_alloc (Below.refl _ _) _
 have HX1 := Hd (show Blk w1 w.heap.size 40 #[.int .i64 9, .int .i64 10, .int .i64 ib, .string ⟨⟨ty⟩⟩, .string ⟨⟨cl⟩⟩, .string ⟨⟨nm⟩⟩] by rw [hw1]; exact blk_new _ _ _ _ rfl)
 have HG1 := Hd (gb_below (gb_refl w c) hal)
 have HB1 := Hd (hb.trans (hal.mono hb.size))
 have HS1 := Hd (hs.below hal)
 have HW := Hd hW
 have HB := Hd hb
 have HCB := Hd hs.cB
 have hwc : w.heap.size ≠ c := by have := hs.lt; omega
 have HN := Hd (kd_num2 (wl l) hn)
 have HE := Hd (show plainF (wl l) gv ⟨9, 10, ib, ty, cl, nm⟩ f = (mathF (wl l) 10 ty f).elim none fun g => putO (takeF (wl l) [ty] g) ty by unfold plainF; simp)
 have HMF := Hd (show mathF (wl l) 10 ty f = takeF (wl l) [[73]] f by unfold mathF; simp)
 have e0 := HX1.out.cell 0
 have e1 := HX1.out.cell 1
 have e3 := HX1.out.cell 3
 have el := HX1.out.lt
 clear hW hb hs hal 
 go_enter Tryz.func93, Tryz.ntmps93
 go_upto_region 1 with fail
 rw [← hw1]
 clear hw1
 go_wp2_with fail
 refine (take1 l L b c fr gv f [73] w0 _ HW.out HB1.out HS1.out (by decide)).mono ?_
 rintro e w2 ⟨hg2, ⟨hn2, rfl⟩ | ⟨f2, hn2, rfl, hs2⟩⟩
 · have HB2 := Hd (gb_to_below HB1.out hg2 HCB.out)
   have HN2 := Hd hn2
   clear hg2 hn2
   go_wp2_with fail
   exact ⟨rfl, HB2.out, Or.inl ⟨by simp [putO, HE.out, HMF.out, HN2.out], rfl⟩⟩
 have HN2 := Hd hn2
 have HS2 := Hd hs2
 have HB2 := Hd (gb_to_below HB1.out hg2 HCB.out)
 have HX2 := Hd (gb_blk hg2 HX1.out hwc)
 clear hg2 hn2 hs2
 clear e0 e1 e3 el
 have e0 := HX2.out.cell 0
 have e1 := HX2.out.cell 1
 have e3 := HX2.out.cell 3
 have el := HX2.out.lt
 go_wp2_with fail
 refine (take1 l L b c fr gv f2 ty w0 _ HW.out HB2.out HS2.out HN.out.2).mono ?_
 rintro e w3 ⟨hg3, ⟨hn3, rfl⟩ | ⟨f3, hn3, rfl, hs3⟩⟩
 · have HB3 := Hd (gb_to_below HB2.out hg3 HCB.out)
   have HN3 := Hd hn3
   clear hg3 hn3
   go_wp2_with fail
   exact ⟨rfl, HB3.out, Or.inl ⟨by simp [putO, HE.out, HMF.out, HN2.out, HN3.out], rfl⟩⟩
 have HN3 := Hd hn3
 have HS3 := Hd hs3
 have HB3 := Hd (gb_to_below HB2.out hg3 HCB.out)
 have HX3 := Hd (gb_blk hg3 HX2.out hwc)
 clear hg3 hn3 hs3
 clear e0 e1 e3 el
 have e0 := HX3.out.cell 0
 have e1 := HX3.out.cell 1
 have e3 := HX3.out.cell 3
 have el := HX3.out.lt
 go_wp2_with fail
 refine (put_calls (wl l) b c w0.heap.size fr gv f3 ty w0 _ HB3.out HB3.out.size HS3.out HN.out.1).mono ?_
 rintro e w4 ⟨hb4, ⟨hn4, rfl⟩ | ⟨f4, hn4, rfl, hs4⟩⟩
 · have HB4 := Hd (hb4)
   have HN4 := Hd hn4
   clear hb4 hn4
   go_wp2_with fail
   exact ⟨rfl, HB4.out, Or.inl ⟨by simp [putO, HE.out, HMF.out, HN2.out, HN3.out, HN4.out], rfl⟩⟩
 have HN4 := Hd hn4
 have HS4 := Hd hs4
 have HB4 := Hd hb4
 clear hb4 hn4 hs4
 clear e0 e1 e3 el
 go_wp2_with fail
 go_end0
 exact ⟨HB4.out, Or.inr ⟨_, by simp [putO, HE.out, HMF.out, HN2.out, HN3.out, HN4.out], rfl, HS4.out⟩⟩
theorem plain_9_11 (l : List ClassR) (L : List CP) (b c : Nat) (fr gv : Nm) (f : FrR) (ib : Int) (ty cl nm : Nm) (w0 w : World) (hW : WOk w0 b l L) (hb : Below w0.heap.size w0 w) (hs : Stp (wl l) w w0.heap.size c b fr gv f) (hn : numB ty = true) :
   Calls Tryz.prog 93 #[.pointer (some ⟨c, 0, none⟩), .agg #[.int .i64 (9), .int .i64 (11), .int .i64 ib, .string ⟨⟨ty⟩⟩, .string ⟨⟨cl⟩⟩, .string ⟨⟨nm⟩⟩]] w (StRes (wl l) (plainF (wl l) gv ⟨9, 11, ib, ty, cl, nm⟩ f) w0.heap.size c b fr gv w0) := by
 obtain ⟨w1, hw1⟩ : ∃ w1, w1 = w.alloc (.cells #[.int .i64 9, .int .i64 11, .int .i64 ib, .string ⟨⟨ty⟩⟩, .string ⟨⟨cl⟩⟩, .string ⟨⟨nm⟩⟩] 40) := ⟨_, rfl⟩
 have hal : Below w.heap.size w w1 := by rw [hw1]; exact bl_alloc (Below.refl _ _) _
 have HX1 := Hd (show Blk w1 w.heap.size 40 #[.int .i64 9, .int .i64 11, .int .i64 ib, .string ⟨⟨ty⟩⟩, .string ⟨⟨cl⟩⟩, .string ⟨⟨nm⟩⟩] by rw [hw1]; exact blk_new _ _ _ _ rfl)
 have HG1 := Hd (gb_below (gb_refl w c) hal)
 have HB1 := Hd (hb.trans (hal.mono hb.size))
 have HS1 := Hd (hs.below hal)
 have HW := Hd hW
 have HB := Hd hb
 have HCB := Hd hs.cB
 have hwc : w.heap.size ≠ c := by have := hs.lt; omega
 have HN := Hd (kd_num2 (wl l) hn)
 have HE := Hd (show plainF (wl l) gv ⟨9, 11, ib, ty, cl, nm⟩ f = (mathF (wl l) 11 ty f).elim none fun g => putO (takeF (wl l) [ty] g) ty by unfold plainF; simp)
 have HMF := Hd (show mathF (wl l) 11 ty f = takeF (wl l) [[73]] f by unfold mathF; simp)
 have e0 := HX1.out.cell 0
 have e1 := HX1.out.cell 1
 have e3 := HX1.out.cell 3
 have el := HX1.out.lt
 clear hW hb hs hal 
 go_enter Tryz.func93, Tryz.ntmps93
 go_upto_region 1 with fail
 rw [← hw1]
 clear hw1
 go_wp2_with fail
 refine (take1 l L b c fr gv f [73] w0 _ HW.out HB1.out HS1.out (by decide)).mono ?_
 rintro e w2 ⟨hg2, ⟨hn2, rfl⟩ | ⟨f2, hn2, rfl, hs2⟩⟩
 · have HB2 := Hd (gb_to_below HB1.out hg2 HCB.out)
   have HN2 := Hd hn2
   clear hg2 hn2
   go_wp2_with fail
   exact ⟨rfl, HB2.out, Or.inl ⟨by simp [putO, HE.out, HMF.out, HN2.out], rfl⟩⟩
 have HN2 := Hd hn2
 have HS2 := Hd hs2
 have HB2 := Hd (gb_to_below HB1.out hg2 HCB.out)
 have HX2 := Hd (gb_blk hg2 HX1.out hwc)
 clear hg2 hn2 hs2
 clear e0 e1 e3 el
 have e0 := HX2.out.cell 0
 have e1 := HX2.out.cell 1
 have e3 := HX2.out.cell 3
 have el := HX2.out.lt
 go_wp2_with fail
 refine (take1 l L b c fr gv f2 ty w0 _ HW.out HB2.out HS2.out HN.out.2).mono ?_
 rintro e w3 ⟨hg3, ⟨hn3, rfl⟩ | ⟨f3, hn3, rfl, hs3⟩⟩
 · have HB3 := Hd (gb_to_below HB2.out hg3 HCB.out)
   have HN3 := Hd hn3
   clear hg3 hn3
   go_wp2_with fail
   exact ⟨rfl, HB3.out, Or.inl ⟨by simp [putO, HE.out, HMF.out, HN2.out, HN3.out], rfl⟩⟩
 have HN3 := Hd hn3
 have HS3 := Hd hs3
 have HB3 := Hd (gb_to_below HB2.out hg3 HCB.out)
 have HX3 := Hd (gb_blk hg3 HX2.out hwc)
 clear hg3 hn3 hs3
 clear e0 e1 e3 el
 have e0 := HX3.out.cell 0
 have e1 := HX3.out.cell 1
 have e3 := HX3.out.cell 3
 have el := HX3.out.lt
 go_wp2_with fail
 refine (put_calls (wl l) b c w0.heap.size fr gv f3 ty w0 _ HB3.out HB3.out.size HS3.out HN.out.1).mono ?_
 rintro e w4 ⟨hb4, ⟨hn4, rfl⟩ | ⟨f4, hn4, rfl, hs4⟩⟩
 · have HB4 := Hd (hb4)
   have HN4 := Hd hn4
   clear hb4 hn4
   go_wp2_with fail
   exact ⟨rfl, HB4.out, Or.inl ⟨by simp [putO, HE.out, HMF.out, HN2.out, HN3.out, HN4.out], rfl⟩⟩
 have HN4 := Hd hn4
 have HS4 := Hd hs4
 have HB4 := Hd hb4
 clear hb4 hn4 hs4
 clear e0 e1 e3 el
 go_wp2_with fail
 go_end0
 exact ⟨HB4.out, Or.inr ⟨_, by simp [putO, HE.out, HMF.out, HN2.out, HN3.out, HN4.out], rfl, HS4.out⟩⟩
theorem plain_9_x (l : List ClassR) (L : List CP) (b c : Nat) (fr gv : Nm) (f : FrR) (ia ib : Int) (ty cl nm : Nm) (w0 w : World) (hW : WOk w0 b l L) (hb : Below w0.heap.size w0 w) (hs : Stp (wl l) w w0.heap.size c b fr gv f) (hn : numB ty = true) (h9 : ia ≠ 9) (h10 : ia ≠ 10) (h11 : ia ≠ 11) (h12 : ia ≠ 12) :
   Calls Tryz.prog 93 #[.pointer (some ⟨c, 0, none⟩), .agg #[.int .i64 (9), .int .i64 ia, .int .i64 ib, .string ⟨⟨ty⟩⟩, .string ⟨⟨cl⟩⟩, .string ⟨⟨nm⟩⟩]] w (StRes (wl l) (plainF (wl l) gv ⟨9, ia, ib, ty, cl, nm⟩ f) w0.heap.size c b fr gv w0) := by
 obtain ⟨w1, hw1⟩ : ∃ w1, w1 = w.alloc (.cells #[.int .i64 9, .int .i64 ia, .int .i64 ib, .string ⟨⟨ty⟩⟩, .string ⟨⟨cl⟩⟩, .string ⟨⟨nm⟩⟩] 40) := ⟨_, rfl⟩
 have hal : Below w.heap.size w w1 := by rw [hw1]; exact bl_alloc (Below.refl _ _) _
 have HX1 := Hd (show Blk w1 w.heap.size 40 #[.int .i64 9, .int .i64 ia, .int .i64 ib, .string ⟨⟨ty⟩⟩, .string ⟨⟨cl⟩⟩, .string ⟨⟨nm⟩⟩] by rw [hw1]; exact blk_new _ _ _ _ rfl)
 have HG1 := Hd (gb_below (gb_refl w c) hal)
 have HB1 := Hd (hb.trans (hal.mono hb.size))
 have HS1 := Hd (hs.below hal)
 have HW := Hd hW
 have HB := Hd hb
 have HCB := Hd hs.cB
 have hwc : w.heap.size ≠ c := by have := hs.lt; omega
 have HN := Hd (kd_num2 (wl l) hn)
 have HE := Hd (show plainF (wl l) gv ⟨9, ia, ib, ty, cl, nm⟩ f = (mathF (wl l) ia ty f).elim none fun g => putO (takeF (wl l) [ty] g) ty by unfold plainF; simp)
 have HMF := Hd (show mathF (wl l) ia ty f = takeF (wl l) [ty] f by unfold mathF; rw [if_neg h12, if_neg (by omega)])
 have q9 : (ia == 9) = false := by rw [beq_eq_false_iff_ne]; exact h9
 have q10 : (ia == 10) = false := by rw [beq_eq_false_iff_ne]; exact h10
 have q11 : (ia == 11) = false := by rw [beq_eq_false_iff_ne]; exact h11
 have q12 : (ia == 12) = false := by rw [beq_eq_false_iff_ne]; exact h12
 have e0 := HX1.out.cell 0
 have e1 := HX1.out.cell 1
 have e3 := HX1.out.cell 3
 have el := HX1.out.lt
 clear hW hb hs hal h9 h10 h11 h12
 go_enter Tryz.func93, Tryz.ntmps93
 go_upto_region 1 with fail
 rw [← hw1]
 clear hw1
 go_wp2_with fail
 refine (take1 l L b c fr gv f ty w0 _ HW.out HB1.out HS1.out HN.out.2).mono ?_
 rintro e w2 ⟨hg2, ⟨hn2, rfl⟩ | ⟨f2, hn2, rfl, hs2⟩⟩
 · have HB2 := Hd (gb_to_below HB1.out hg2 HCB.out)
   have HN2 := Hd hn2
   clear hg2 hn2
   go_wp2_with fail
   exact ⟨rfl, HB2.out, Or.inl ⟨by simp [putO, HE.out, HMF.out, HN2.out], rfl⟩⟩
 have HN2 := Hd hn2
 have HS2 := Hd hs2
 have HB2 := Hd (gb_to_below HB1.out hg2 HCB.out)
 have HX2 := Hd (gb_blk hg2 HX1.out hwc)
 clear hg2 hn2 hs2
 clear e0 e1 e3 el
 have e0 := HX2.out.cell 0
 have e1 := HX2.out.cell 1
 have e3 := HX2.out.cell 3
 have el := HX2.out.lt
 go_wp2_with fail
 refine (take1 l L b c fr gv f2 ty w0 _ HW.out HB2.out HS2.out HN.out.2).mono ?_
 rintro e w3 ⟨hg3, ⟨hn3, rfl⟩ | ⟨f3, hn3, rfl, hs3⟩⟩
 · have HB3 := Hd (gb_to_below HB2.out hg3 HCB.out)
   have HN3 := Hd hn3
   clear hg3 hn3
   go_wp2_with fail
   exact ⟨rfl, HB3.out, Or.inl ⟨by simp [putO, HE.out, HMF.out, HN2.out, HN3.out], rfl⟩⟩
 have HN3 := Hd hn3
 have HS3 := Hd hs3
 have HB3 := Hd (gb_to_below HB2.out hg3 HCB.out)
 have HX3 := Hd (gb_blk hg3 HX2.out hwc)
 clear hg3 hn3 hs3
 clear e0 e1 e3 el
 have e0 := HX3.out.cell 0
 have e1 := HX3.out.cell 1
 have e3 := HX3.out.cell 3
 have el := HX3.out.lt
 go_wp2_with fail
 refine (put_calls (wl l) b c w0.heap.size fr gv f3 ty w0 _ HB3.out HB3.out.size HS3.out HN.out.1).mono ?_
 rintro e w4 ⟨hb4, ⟨hn4, rfl⟩ | ⟨f4, hn4, rfl, hs4⟩⟩
 · have HB4 := Hd (hb4)
   have HN4 := Hd hn4
   clear hb4 hn4
   go_wp2_with fail
   exact ⟨rfl, HB4.out, Or.inl ⟨by simp [putO, HE.out, HMF.out, HN2.out, HN3.out, HN4.out], rfl⟩⟩
 have HN4 := Hd hn4
 have HS4 := Hd hs4
 have HB4 := Hd hb4
 clear hb4 hn4 hs4
 clear e0 e1 e3 el
 go_wp2_with fail
 go_end0
 exact ⟨HB4.out, Or.inr ⟨_, by simp [putO, HE.out, HMF.out, HN2.out, HN3.out, HN4.out], rfl, HS4.out⟩⟩
theorem plain_11 (l : List ClassR) (L : List CP) (b c : Nat) (fr gv : Nm) (f : FrR) (ia ib : Int) (ty cl nm : Nm) (w0 w : World) (hW : WOk w0 b l L) (hb : Below w0.heap.size w0 w) (hs : Stp (wl l) w w0.heap.size c b fr gv f) :
   Calls Tryz.prog 93 #[.pointer (some ⟨c, 0, none⟩), .agg #[.int .i64 (11), .int .i64 ia, .int .i64 ib, .string ⟨⟨ty⟩⟩, .string ⟨⟨cl⟩⟩, .string ⟨⟨nm⟩⟩]] w (StRes (wl l) (plainF (wl l) gv ⟨11, ia, ib, ty, cl, nm⟩ f) w0.heap.size c b fr gv w0) := by
 obtain ⟨w1, hw1⟩ : ∃ w1, w1 = w.alloc (.cells #[.int .i64 11, .int .i64 ia, .int .i64 ib, .string ⟨⟨ty⟩⟩, .string ⟨⟨cl⟩⟩, .string ⟨⟨nm⟩⟩] 40) := ⟨_, rfl⟩
 have hal : Below w.heap.size w w1 := by rw [hw1]; exact bl_alloc (Below.refl _ _) _
 have HX1 := Hd (show Blk w1 w.heap.size 40 #[.int .i64 11, .int .i64 ia, .int .i64 ib, .string ⟨⟨ty⟩⟩, .string ⟨⟨cl⟩⟩, .string ⟨⟨nm⟩⟩] by rw [hw1]; exact blk_new _ _ _ _ rfl)
 have HG1 := Hd (gb_below (gb_refl w c) hal)
 have HB1 := Hd (hb.trans (hal.mono hb.size))
 have HS1 := Hd (hs.below hal)
 have HW := Hd hW
 have HB := Hd hb
 have HCB := Hd hs.cB
 have hwc : w.heap.size ≠ c := by have := hs.lt; omega
 have HE := Hd (show plainF (wl l) gv ⟨11, ia, ib, ty, cl, nm⟩ f = putO (takeF (wl l) [[74], [74]] f) [73] by unfold plainF; simp)
 have e0 := HX1.out.cell 0
 have el := HX1.out.lt
 clear hW hb hs hal 
 go_enter Tryz.func93, Tryz.ntmps93
 go_upto_region 1 with fail
 rw [← hw1]
 clear hw1
 go_wp2_with fail
 refine (take2 l L b c fr gv f [74] [74] w0 _ HW.out HB1.out HS1.out (by decide) (by decide)).mono ?_
 rintro e w2 ⟨hg2, ⟨hn2, rfl⟩ | ⟨f2, hn2, rfl, hs2⟩⟩
 · have HB2 := Hd (gb_to_below HB1.out hg2 HCB.out)
   have HN2 := Hd hn2
   clear hg2 hn2
   go_wp2_with fail
   exact ⟨rfl, HB2.out, Or.inl ⟨by simp [putO, HE.out, HN2.out], rfl⟩⟩
 have HN2 := Hd hn2
 have HS2 := Hd hs2
 have HB2 := Hd (gb_to_below HB1.out hg2 HCB.out)
 have HX2 := Hd (gb_blk hg2 HX1.out hwc)
 clear hg2 hn2 hs2
 clear e0 el
 have e0 := HX2.out.cell 0
 have el := HX2.out.lt
 go_wp2_with fail
 refine (put_calls (wl l) b c w0.heap.size fr gv f2 [73] w0 _ HB2.out HB2.out.size HS2.out (kd_int _)).mono ?_
 rintro e w3 ⟨hb3, ⟨hn3, rfl⟩ | ⟨f3, hn3, rfl, hs3⟩⟩
 · have HB3 := Hd (hb3)
   have HN3 := Hd hn3
   clear hb3 hn3
   go_wp2_with fail
   exact ⟨rfl, HB3.out, Or.inl ⟨by simp [putO, HE.out, HN2.out, HN3.out], rfl⟩⟩
 have HN3 := Hd hn3
 have HS3 := Hd hs3
 have HB3 := Hd hb3
 clear hb3 hn3 hs3
 clear e0 el
 go_wp2_with fail
 go_end0
 exact ⟨HB3.out, Or.inr ⟨_, by simp [putO, HE.out, HN2.out, HN3.out], rfl, HS3.out⟩⟩
theorem plain_12 (l : List ClassR) (L : List CP) (b c : Nat) (fr gv : Nm) (f : FrR) (ia ib : Int) (ty cl nm : Nm) (w0 w : World) (hW : WOk w0 b l L) (hb : Below w0.heap.size w0 w) (hs : Stp (wl l) w w0.heap.size c b fr gv f) :
   Calls Tryz.prog 93 #[.pointer (some ⟨c, 0, none⟩), .agg #[.int .i64 (12), .int .i64 ia, .int .i64 ib, .string ⟨⟨ty⟩⟩, .string ⟨⟨cl⟩⟩, .string ⟨⟨nm⟩⟩]] w (StRes (wl l) (plainF (wl l) gv ⟨12, ia, ib, ty, cl, nm⟩ f) w0.heap.size c b fr gv w0) := by
 obtain ⟨w1, hw1⟩ : ∃ w1, w1 = w.alloc (.cells #[.int .i64 12, .int .i64 ia, .int .i64 ib, .string ⟨⟨ty⟩⟩, .string ⟨⟨cl⟩⟩, .string ⟨⟨nm⟩⟩] 40) := ⟨_, rfl⟩
 have hal : Below w.heap.size w w1 := by rw [hw1]; exact bl_alloc (Below.refl _ _) _
 have HX1 := Hd (show Blk w1 w.heap.size 40 #[.int .i64 12, .int .i64 ia, .int .i64 ib, .string ⟨⟨ty⟩⟩, .string ⟨⟨cl⟩⟩, .string ⟨⟨nm⟩⟩] by rw [hw1]; exact blk_new _ _ _ _ rfl)
 have HG1 := Hd (gb_below (gb_refl w c) hal)
 have HB1 := Hd (hb.trans (hal.mono hb.size))
 have HS1 := Hd (hs.below hal)
 have HW := Hd hW
 have HB := Hd hb
 have HCB := Hd hs.cB
 have hwc : w.heap.size ≠ c := by have := hs.lt; omega
 have HE := Hd (show plainF (wl l) gv ⟨12, ia, ib, ty, cl, nm⟩ f = takeF (wl l) [[73]] f by unfold plainF; simp)
 have e0 := HX1.out.cell 0
 have el := HX1.out.lt
 clear hW hb hs hal 
 go_enter Tryz.func93, Tryz.ntmps93
 go_upto_region 1 with fail
 rw [← hw1]
 clear hw1
 go_wp2_with fail
 refine (take1 l L b c fr gv f [73] w0 _ HW.out HB1.out HS1.out (by decide)).mono ?_
 rintro e w2 ⟨hg2, ⟨hn2, rfl⟩ | ⟨f2, hn2, rfl, hs2⟩⟩
 · have HB2 := Hd (gb_to_below HB1.out hg2 HCB.out)
   have HN2 := Hd hn2
   clear hg2 hn2
   go_wp2_with fail
   exact ⟨rfl, HB2.out, Or.inl ⟨by simp [putO, HE.out, HN2.out], rfl⟩⟩
 have HN2 := Hd hn2
 have HS2 := Hd hs2
 have HB2 := Hd (gb_to_below HB1.out hg2 HCB.out)
 have HX2 := Hd (gb_blk hg2 HX1.out hwc)
 clear hg2 hn2 hs2
 clear e0 el
 have e0 := HX2.out.cell 0
 have el := HX2.out.lt
 go_wp2_with fail
 go_end0
 exact ⟨HB2.out, Or.inr ⟨_, by simp [putO, HE.out, HN2.out], rfl, HS2.out⟩⟩
theorem plain_13 (l : List ClassR) (L : List CP) (b c : Nat) (fr gv : Nm) (f : FrR) (ia ib : Int) (ty cl nm : Nm) (w0 w : World) (hW : WOk w0 b l L) (hb : Below w0.heap.size w0 w) (hs : Stp (wl l) w w0.heap.size c b fr gv f) :
   Calls Tryz.prog 93 #[.pointer (some ⟨c, 0, none⟩), .agg #[.int .i64 (13), .int .i64 ia, .int .i64 ib, .string ⟨⟨ty⟩⟩, .string ⟨⟨cl⟩⟩, .string ⟨⟨nm⟩⟩]] w (StRes (wl l) (plainF (wl l) gv ⟨13, ia, ib, ty, cl, nm⟩ f) w0.heap.size c b fr gv w0) := by
 obtain ⟨w1, hw1⟩ : ∃ w1, w1 = w.alloc (.cells #[.int .i64 13, .int .i64 ia, .int .i64 ib, .string ⟨⟨ty⟩⟩, .string ⟨⟨cl⟩⟩, .string ⟨⟨nm⟩⟩] 40) := ⟨_, rfl⟩
 have hal : Below w.heap.size w w1 := by rw [hw1]; exact bl_alloc (Below.refl _ _) _
 have HX1 := Hd (show Blk w1 w.heap.size 40 #[.int .i64 13, .int .i64 ia, .int .i64 ib, .string ⟨⟨ty⟩⟩, .string ⟨⟨cl⟩⟩, .string ⟨⟨nm⟩⟩] by rw [hw1]; exact blk_new _ _ _ _ rfl)
 have HG1 := Hd (gb_below (gb_refl w c) hal)
 have HB1 := Hd (hb.trans (hal.mono hb.size))
 have HS1 := Hd (hs.below hal)
 have HW := Hd hW
 have HB := Hd hb
 have HCB := Hd hs.cB
 have hwc : w.heap.size ≠ c := by have := hs.lt; omega
 have HE := Hd (show plainF (wl l) gv ⟨13, ia, ib, ty, cl, nm⟩ f = (refF f).map (·.2) by unfold plainF; simp)
 have e0 := HX1.out.cell 0
 have el := HX1.out.lt
 clear hW hb hs hal 
 go_enter Tryz.func93, Tryz.ntmps93
 go_upto_region 1 with fail
 rw [← hw1]
 clear hw1
 go_wp2_with fail
 refine (ref_calls (wl l) b c w0.heap.size fr gv f _ HS1.out).mono ?_
 rintro e w2 ⟨hg2, ⟨hn2, rfl⟩ | ⟨k2, f2, hn2, rfl, hs2⟩⟩
 · have HB2 := Hd (gb_to_below HB1.out hg2 HCB.out)
   have HN2 := Hd hn2
   clear hg2 hn2
   go_wp2_with fail
   exact ⟨rfl, HB2.out, Or.inl ⟨by simp [putO, HE.out, HN2.out], rfl⟩⟩
 have HN2 := Hd hn2
 have HS2 := Hd hs2
 have HB2 := Hd (gb_to_below HB1.out hg2 HCB.out)
 have HX2 := Hd (gb_blk hg2 HX1.out hwc)
 clear hg2 hn2 hs2
 clear e0 el
 have e0 := HX2.out.cell 0
 have el := HX2.out.lt
 go_wp2_with fail
 go_end0
 exact ⟨HB2.out, Or.inr ⟨_, by simp [putO, HE.out, HN2.out], rfl, HS2.out⟩⟩
theorem other_calls (t : Nm) (w : World) : Calls Tryz.prog 159 #[.string ⟨⟨t⟩⟩] w fun e w' => e = .returned (.string ⟨⟨otherN t⟩⟩) ∧ w' = w := by
 by_cases h : t = [73]
 · subst h
   go_enter Tryz.func159, Tryz.ntmps159
   go_wp2_with fail
   go_ret
   exact ⟨rfl, rfl⟩
 · have HE := Hd (show otherN t = [73] by unfold otherN; rw [if_neg h])
   have q : (t == [73]) = false := by rw [beq_eq_false_iff_ne]; exact h
   clear h
   go_enter Tryz.func159, Tryz.ntmps159
   go_wp2_with fail
   go_ret
   exact ⟨by rw [HE.out]; rfl, rfl⟩
theorem other_len (t : Nm) : (otherN t).length ≤ 8388608 := by unfold otherN; split <;> simp
theorem Stp.cell2 {L : List ClassR} {w : World} {B c b : Nat} {fr gv : Nm} {f : FrR} (h : Stp L w B c b fr gv f) : w.cell? ⟨c, 2, none⟩ = some (.string ⟨⟨gv⟩⟩) := by obtain ⟨_, _, _, _, h⟩ := h; exact h.blk.cell 2
theorem plain_10 (l : List ClassR) (L : List CP) (b c : Nat) (fr gv : Nm) (f : FrR) (ia ib : Int) (ty cl nm : Nm) (w0 w : World) (hW : WOk w0 b l L) (hb : Below w0.heap.size w0 w) (hs : Stp (wl l) w w0.heap.size c b fr gv f) (hn : numB ty = true) :
   Calls Tryz.prog 93 #[.pointer (some ⟨c, 0, none⟩), .agg #[.int .i64 (10), .int .i64 ia, .int .i64 ib, .string ⟨⟨ty⟩⟩, .string ⟨⟨cl⟩⟩, .string ⟨⟨nm⟩⟩]] w (StRes (wl l) (plainF (wl l) gv ⟨10, ia, ib, ty, cl, nm⟩ f) w0.heap.size c b fr gv w0) := by
 obtain ⟨w1, hw1⟩ : ∃ w1, w1 = w.alloc (.cells #[.int .i64 10, .int .i64 ia, .int .i64 ib, .string ⟨⟨ty⟩⟩, .string ⟨⟨cl⟩⟩, .string ⟨⟨nm⟩⟩] 40) := ⟨_, rfl⟩
 have hal : Below w.heap.size w w1 := by rw [hw1]; exact bl_alloc (Below.refl _ _) _
 have HX1 := Hd (show Blk w1 w.heap.size 40 #[.int .i64 10, .int .i64 ia, .int .i64 ib, .string ⟨⟨ty⟩⟩, .string ⟨⟨cl⟩⟩, .string ⟨⟨nm⟩⟩] by rw [hw1]; exact blk_new _ _ _ _ rfl)
 have HG1 := Hd (gb_below (gb_refl w c) hal)
 have HB1 := Hd (hb.trans (hal.mono hb.size))
 have HS1 := Hd (hs.below hal)
 have HW := Hd hW
 have HB := Hd hb
 have HCB := Hd hs.cB
 have hwc : w.heap.size ≠ c := by have := hs.lt; omega
 have HN := Hd (kd_num2 (wl l) hn)
 have HE := Hd (show plainF (wl l) gv ⟨10, ia, ib, ty, cl, nm⟩ f = putO (takeF (wl l) [otherN ty] f) ty by unfold plainF; simp)
 have e0 := HX1.out.cell 0
 have e3 := HX1.out.cell 3
 have el := HX1.out.lt
 clear hW hb hs hal 
 go_enter Tryz.func93, Tryz.ntmps93
 go_upto_region 1 with fail
 rw [← hw1]
 clear hw1
 go_wp2_with fail
 refine (other_calls ty _).mono ?_
 rintro e wo ⟨rfl, rfl⟩
 go_wp2_with fail
 refine (take1 l L b c fr gv f (otherN ty) w0 _ HW.out HB1.out HS1.out (other_len ty)).mono ?_
 rintro e w2 ⟨hg2, ⟨hn2, rfl⟩ | ⟨f2, hn2, rfl, hs2⟩⟩
 · have HB2 := Hd (gb_to_below HB1.out hg2 HCB.out)
   have HN2 := Hd hn2
   clear hg2 hn2
   go_wp2_with fail
   exact ⟨rfl, HB2.out, Or.inl ⟨by simp [putO, HE.out, HN2.out], rfl⟩⟩
 have HN2 := Hd hn2
 have HS2 := Hd hs2
 have HB2 := Hd (gb_to_below HB1.out hg2 HCB.out)
 have HX2 := Hd (gb_blk hg2 HX1.out hwc)
 clear hg2 hn2 hs2
 clear e0 e3 el
 have e0 := HX2.out.cell 0
 have e3 := HX2.out.cell 3
 have el := HX2.out.lt
 go_wp2_with fail
 refine (put_calls (wl l) b c w0.heap.size fr gv f2 ty w0 _ HB2.out HB2.out.size HS2.out HN.out.1).mono ?_
 rintro e w3 ⟨hb3, ⟨hn3, rfl⟩ | ⟨f3, hn3, rfl, hs3⟩⟩
 · have HB3 := Hd (hb3)
   have HN3 := Hd hn3
   clear hb3 hn3
   go_wp2_with fail
   exact ⟨rfl, HB3.out, Or.inl ⟨by simp [putO, HE.out, HN2.out, HN3.out], rfl⟩⟩
 have HN3 := Hd hn3
 have HS3 := Hd hs3
 have HB3 := Hd hb3
 clear hb3 hn3 hs3
 clear e0 e3 el
 go_wp2_with fail
 go_end0
 exact ⟨HB3.out, Or.inr ⟨_, by simp [putO, HE.out, HN2.out, HN3.out], rfl, HS3.out⟩⟩
theorem plain_26_v (l : List ClassR) (L : List CP) (b c : Nat) (fr : Nm) (f : FrR) (ia ib : Int) (ty cl nm : Nm) (w0 w : World) (hW : WOk w0 b l L) (hb : Below w0.heap.size w0 w) (hs : Stp (wl l) w w0.heap.size c b fr [86] f) :
   Calls Tryz.prog 93 #[.pointer (some ⟨c, 0, none⟩), .agg #[.int .i64 (26), .int .i64 ia, .int .i64 ib, .string ⟨⟨ty⟩⟩, .string ⟨⟨cl⟩⟩, .string ⟨⟨nm⟩⟩]] w (StRes (wl l) (plainF (wl l) [86] ⟨26, ia, ib, ty, cl, nm⟩ f) w0.heap.size c b fr [86] w0) := by
 obtain ⟨w1, hw1⟩ : ∃ w1, w1 = w.alloc (.cells #[.int .i64 26, .int .i64 ia, .int .i64 ib, .string ⟨⟨ty⟩⟩, .string ⟨⟨cl⟩⟩, .string ⟨⟨nm⟩⟩] 40) := ⟨_, rfl⟩
 have hal : Below w.heap.size w w1 := by rw [hw1]; exact bl_alloc (Below.refl _ _) _
 have HX1 := Hd (show Blk w1 w.heap.size 40 #[.int .i64 26, .int .i64 ia, .int .i64 ib, .string ⟨⟨ty⟩⟩, .string ⟨⟨cl⟩⟩, .string ⟨⟨nm⟩⟩] by rw [hw1]; exact blk_new _ _ _ _ rfl)
 have HG1 := Hd (gb_below (gb_refl w c) hal)
 have HB1 := Hd (hb.trans (hal.mono hb.size))
 have HS1 := Hd (hs.below hal)
 have HW := Hd hW
 have HB := Hd hb
 have HCB := Hd hs.cB
 have hwc : w.heap.size ≠ c := by have := hs.lt; omega
 have HE := Hd (show plainF (wl l) [86] ⟨26, ia, ib, ty, cl, nm⟩ f = some f by unfold plainF; simp)
 have c2 := HS1.out.cell2
 have cl2 := HS1.out.lt
 have e0 := HX1.out.cell 0
 have el := HX1.out.lt
 clear hW hb hs hal 
 go_enter Tryz.func93, Tryz.ntmps93
 go_upto_region 1 with fail
 rw [← hw1]
 clear hw1
 go_wp2_with fail
 refine (need_true _).mono ?_
 rintro e wn ⟨rfl, rfl⟩
 go_wp2_with fail
 go_end0
 exact ⟨HB1.out, Or.inr ⟨_, HE.out, rfl, HS1.out⟩⟩
theorem plain_27_v (l : List ClassR) (L : List CP) (b c : Nat) (fr : Nm) (f : FrR) (ia ib : Int) (ty cl nm : Nm) (w0 w : World) (hW : WOk w0 b l L) (hb : Below w0.heap.size w0 w) (hs : Stp (wl l) w w0.heap.size c b fr [86] f) :
   Calls Tryz.prog 93 #[.pointer (some ⟨c, 0, none⟩), .agg #[.int .i64 (27), .int .i64 ia, .int .i64 ib, .string ⟨⟨ty⟩⟩, .string ⟨⟨cl⟩⟩, .string ⟨⟨nm⟩⟩]] w (StRes (wl l) (plainF (wl l) [86] ⟨27, ia, ib, ty, cl, nm⟩ f) w0.heap.size c b fr [86] w0) := by
 obtain ⟨w1, hw1⟩ : ∃ w1, w1 = w.alloc (.cells #[.int .i64 27, .int .i64 ia, .int .i64 ib, .string ⟨⟨ty⟩⟩, .string ⟨⟨cl⟩⟩, .string ⟨⟨nm⟩⟩] 40) := ⟨_, rfl⟩
 have hal : Below w.heap.size w w1 := by rw [hw1]; exact bl_alloc (Below.refl _ _) _
 have HX1 := Hd (show Blk w1 w.heap.size 40 #[.int .i64 27, .int .i64 ia, .int .i64 ib, .string ⟨⟨ty⟩⟩, .string ⟨⟨cl⟩⟩, .string ⟨⟨nm⟩⟩] by rw [hw1]; exact blk_new _ _ _ _ rfl)
 have HG1 := Hd (gb_below (gb_refl w c) hal)
 have HB1 := Hd (hb.trans (hal.mono hb.size))
 have HS1 := Hd (hs.below hal)
 have HW := Hd hW
 have HB := Hd hb
 have HCB := Hd hs.cB
 have hwc : w.heap.size ≠ c := by have := hs.lt; omega
 have HE := Hd (show plainF (wl l) [86] ⟨27, ia, ib, ty, cl, nm⟩ f = none by unfold plainF; simp)
 have c2 := HS1.out.cell2
 have cl2 := HS1.out.lt
 have e0 := HX1.out.cell 0
 have el := HX1.out.lt
 clear hW hb hs hal 
 go_enter Tryz.func93, Tryz.ntmps93
 go_upto_region 1 with fail
 rw [← hw1]
 clear hw1
 go_wp2_with fail
 refine (need_false _).mono ?_
 rintro e wn ⟨rfl, rfl⟩
 go_wp2_with fail
 exact ⟨rfl, HB1.out, Or.inl ⟨HE.out, rfl⟩⟩
theorem plain_26_x (l : List ClassR) (L : List CP) (b c : Nat) (fr gv : Nm) (f : FrR) (ia ib : Int) (ty cl nm : Nm) (w0 w : World) (hW : WOk w0 b l L) (hb : Below w0.heap.size w0 w) (hs : Stp (wl l) w w0.heap.size c b fr gv f) (hg : gv ≠ [86]) :
   Calls Tryz.prog 93 #[.pointer (some ⟨c, 0, none⟩), .agg #[.int .i64 (26), .int .i64 ia, .int .i64 ib, .string ⟨⟨ty⟩⟩, .string ⟨⟨cl⟩⟩, .string ⟨⟨nm⟩⟩]] w (StRes (wl l) (plainF (wl l) gv ⟨26, ia, ib, ty, cl, nm⟩ f) w0.heap.size c b fr gv w0) := by
 obtain ⟨w1, hw1⟩ : ∃ w1, w1 = w.alloc (.cells #[.int .i64 26, .int .i64 ia, .int .i64 ib, .string ⟨⟨ty⟩⟩, .string ⟨⟨cl⟩⟩, .string ⟨⟨nm⟩⟩] 40) := ⟨_, rfl⟩
 have hal : Below w.heap.size w w1 := by rw [hw1]; exact bl_alloc (Below.refl _ _) _
 have HX1 := Hd (show Blk w1 w.heap.size 40 #[.int .i64 26, .int .i64 ia, .int .i64 ib, .string ⟨⟨ty⟩⟩, .string ⟨⟨cl⟩⟩, .string ⟨⟨nm⟩⟩] by rw [hw1]; exact blk_new _ _ _ _ rfl)
 have HG1 := Hd (gb_below (gb_refl w c) hal)
 have HB1 := Hd (hb.trans (hal.mono hb.size))
 have HS1 := Hd (hs.below hal)
 have HW := Hd hW
 have HB := Hd hb
 have HCB := Hd hs.cB
 have hwc : w.heap.size ≠ c := by have := hs.lt; omega
 have HE := Hd (show plainF (wl l) gv ⟨26, ia, ib, ty, cl, nm⟩ f = none by unfold plainF; simp; exact hg)
 have q : (gv == [86]) = false := by rw [beq_eq_false_iff_ne]; exact hg
 have c2 := HS1.out.cell2
 have cl2 := HS1.out.lt
 have e0 := HX1.out.cell 0
 have el := HX1.out.lt
 clear hW hb hs hal hg
 go_enter Tryz.func93, Tryz.ntmps93
 go_upto_region 1 with fail
 rw [← hw1]
 clear hw1
 go_wp2_with fail
 refine (need_false _).mono ?_
 rintro e wn ⟨rfl, rfl⟩
 go_wp2_with fail
 exact ⟨rfl, HB1.out, Or.inl ⟨HE.out, rfl⟩⟩
theorem plain_27_x (l : List ClassR) (L : List CP) (b c : Nat) (fr gv : Nm) (f : FrR) (ia ib : Int) (ty cl nm : Nm) (w0 w : World) (hW : WOk w0 b l L) (hb : Below w0.heap.size w0 w) (hs : Stp (wl l) w w0.heap.size c b fr gv f) (hg : gv ≠ [86]) (hgl : gv.length ≤ 8388608) :
   Calls Tryz.prog 93 #[.pointer (some ⟨c, 0, none⟩), .agg #[.int .i64 (27), .int .i64 ia, .int .i64 ib, .string ⟨⟨ty⟩⟩, .string ⟨⟨cl⟩⟩, .string ⟨⟨nm⟩⟩]] w (StRes (wl l) (plainF (wl l) gv ⟨27, ia, ib, ty, cl, nm⟩ f) w0.heap.size c b fr gv w0) := by
 obtain ⟨w1, hw1⟩ : ∃ w1, w1 = w.alloc (.cells #[.int .i64 27, .int .i64 ia, .int .i64 ib, .string ⟨⟨ty⟩⟩, .string ⟨⟨cl⟩⟩, .string ⟨⟨nm⟩⟩] 40) := ⟨_, rfl⟩
 have hal : Below w.heap.size w w1 := by rw [hw1]; exact bl_alloc (Below.refl _ _) _
 have HX1 := Hd (show Blk w1 w.heap.size 40 #[.int .i64 27, .int .i64 ia, .int .i64 ib, .string ⟨⟨ty⟩⟩, .string ⟨⟨cl⟩⟩, .string ⟨⟨nm⟩⟩] by rw [hw1]; exact blk_new _ _ _ _ rfl)
 have HG1 := Hd (gb_below (gb_refl w c) hal)
 have HB1 := Hd (hb.trans (hal.mono hb.size))
 have HS1 := Hd (hs.below hal)
 have HW := Hd hW
 have HB := Hd hb
 have HCB := Hd hs.cB
 have hwc : w.heap.size ≠ c := by have := hs.lt; omega
 have HE := Hd (show plainF (wl l) gv ⟨27, ia, ib, ty, cl, nm⟩ f = takeF (wl l) [gv] f by unfold plainF; simp; intro h; exact absurd h hg)
 have q : (gv == [86]) = false := by rw [beq_eq_false_iff_ne]; exact hg
 have c2 := HS1.out.cell2
 have cl2 := HS1.out.lt
 have e0 := HX1.out.cell 0
 have el := HX1.out.lt
 clear hW hb hs hal hg
 go_enter Tryz.func93, Tryz.ntmps93
 go_upto_region 1 with fail
 rw [← hw1]
 clear hw1
 go_wp2_with fail
 refine (need_true _).mono ?_
 rintro e wn ⟨rfl, rfl⟩
 go_wp2_with fail
 refine (take1 l L b c fr gv f gv w0 _ HW.out HB1.out HS1.out hgl).mono ?_
 rintro e w2 ⟨hg2, ⟨hn2, rfl⟩ | ⟨f2, hn2, rfl, hs2⟩⟩
 · have HB2 := Hd (gb_to_below HB1.out hg2 HCB.out)
   have HN2 := Hd hn2
   clear hg2 hn2
   go_wp2_with fail
   exact ⟨rfl, HB2.out, Or.inl ⟨by simp [putO, HE.out, HN2.out], rfl⟩⟩
 have HN2 := Hd hn2
 have HS2 := Hd hs2
 have HB2 := Hd (gb_to_below HB1.out hg2 HCB.out)
 have HX2 := Hd (gb_blk hg2 HX1.out hwc)
 clear hg2 hn2 hs2
 clear e0 el
 have e0 := HX2.out.cell 0
 have el := HX2.out.lt
 go_wp2_with fail
 go_end0
 exact ⟨HB2.out, Or.inr ⟨_, by simp [putO, HE.out, HN2.out], rfl, HS2.out⟩⟩
theorem plain_28 (l : List ClassR) (L : List CP) (b c : Nat) (fr gv : Nm) (f : FrR) (ia ib : Int) (ty cl nm : Nm) (w0 w : World) (hW : WOk w0 b l L) (hb : Below w0.heap.size w0 w) (hs : Stp (wl l) w w0.heap.size c b fr gv f) :
   Calls Tryz.prog 93 #[.pointer (some ⟨c, 0, none⟩), .agg #[.int .i64 (28), .int .i64 ia, .int .i64 ib, .string ⟨⟨ty⟩⟩, .string ⟨⟨cl⟩⟩, .string ⟨⟨nm⟩⟩]] w (StRes (wl l) (plainF (wl l) gv ⟨28, ia, ib, ty, cl, nm⟩ f) w0.heap.size c b fr gv w0) := by
 obtain ⟨w1, hw1⟩ : ∃ w1, w1 = w.alloc (.cells #[.int .i64 28, .int .i64 ia, .int .i64 ib, .string ⟨⟨ty⟩⟩, .string ⟨⟨cl⟩⟩, .string ⟨⟨nm⟩⟩] 40) := ⟨_, rfl⟩
 have hal : Below w.heap.size w w1 := by rw [hw1]; exact bl_alloc (Below.refl _ _) _
 have HX1 := Hd (show Blk w1 w.heap.size 40 #[.int .i64 28, .int .i64 ia, .int .i64 ib, .string ⟨⟨ty⟩⟩, .string ⟨⟨cl⟩⟩, .string ⟨⟨nm⟩⟩] by rw [hw1]; exact blk_new _ _ _ _ rfl)
 have HG1 := Hd (gb_below (gb_refl w c) hal)
 have HB1 := Hd (hb.trans (hal.mono hb.size))
 have HS1 := Hd (hs.below hal)
 have HW := Hd hW
 have HB := Hd hb
 have HCB := Hd hs.cB
 have hwc : w.heap.size ≠ c := by have := hs.lt; omega
 have HE := Hd (show plainF (wl l) gv ⟨28, ia, ib, ty, cl, nm⟩ f = takeF (wl l) [thing fltN] f by unfold plainF; simp)
 have HTH := Hd (fun w => thing_calls fltN (by decide) w)
 have e0 := HX1.out.cell 0
 have el := HX1.out.lt
 clear hW hb hs hal 
 go_enter Tryz.func93, Tryz.ntmps93
 go_upto_region 1 with fail
 rw [← hw1]
 clear hw1
 go_wp2_with fail
 refine (HTH.out _).mono ?_
 rintro e wo ⟨rfl, rfl⟩
 go_wp2_with fail
 refine (take1 l L b c fr gv f (thing fltN) w0 _ HW.out HB1.out HS1.out (by decide)).mono ?_
 rintro e w2 ⟨hg2, ⟨hn2, rfl⟩ | ⟨f2, hn2, rfl, hs2⟩⟩
 · have HB2 := Hd (gb_to_below HB1.out hg2 HCB.out)
   have HN2 := Hd hn2
   clear hg2 hn2
   go_wp2_with fail
   exact ⟨rfl, HB2.out, Or.inl ⟨by simp [putO, HE.out, HN2.out], rfl⟩⟩
 have HN2 := Hd hn2
 have HS2 := Hd hs2
 have HB2 := Hd (gb_to_below HB1.out hg2 HCB.out)
 have HX2 := Hd (gb_blk hg2 HX1.out hwc)
 clear hg2 hn2 hs2
 clear e0 el
 have e0 := HX2.out.cell 0
 have el := HX2.out.lt
 go_wp2_with fail
 go_end0
 exact ⟨HB2.out, Or.inr ⟨_, by simp [putO, HE.out, HN2.out], rfl, HS2.out⟩⟩
theorem plain_skip (l : List ClassR) (L : List CP) (b c : Nat) (fr gv : Nm) (f : FrR) (op ia ib : Int) (ty cl nm : Nm) (w0 w : World) (hW : WOk w0 b l L) (hb : Below w0.heap.size w0 w) (hs : Stp (wl l) w w0.heap.size c b fr gv f) (h2 : op ≠ 2) (h3 : op ≠ 3) (h4 : op ≠ 4) (h5 : op ≠ 5) (h6 : op ≠ 6) (h7 : op ≠ 7) (h8 : op ≠ 8) (h9 : op ≠ 9) (h10 : op ≠ 10) (h11 : op ≠ 11) (h12 : op ≠ 12) (h13 : op ≠ 13) (h26 : op ≠ 26) (h27 : op ≠ 27) (h28 : op ≠ 28) :
   Calls Tryz.prog 93 #[.pointer (some ⟨c, 0, none⟩), .agg #[.int .i64 op, .int .i64 ia, .int .i64 ib, .string ⟨⟨ty⟩⟩, .string ⟨⟨cl⟩⟩, .string ⟨⟨nm⟩⟩]] w (StRes (wl l) (plainF (wl l) gv ⟨op, ia, ib, ty, cl, nm⟩ f) w0.heap.size c b fr gv w0) := by
 obtain ⟨w1, hw1⟩ : ∃ w1, w1 = w.alloc (.cells #[.int .i64 op, .int .i64 ia, .int .i64 ib, .string ⟨⟨ty⟩⟩, .string ⟨⟨cl⟩⟩, .string ⟨⟨nm⟩⟩] 40) := ⟨_, rfl⟩
 have hal : Below w.heap.size w w1 := by rw [hw1]; exact bl_alloc (Below.refl _ _) _
 have HX1 := Hd (show Blk w1 w.heap.size 40 #[.int .i64 op, .int .i64 ia, .int .i64 ib, .string ⟨⟨ty⟩⟩, .string ⟨⟨cl⟩⟩, .string ⟨⟨nm⟩⟩] by rw [hw1]; exact blk_new _ _ _ _ rfl)
 have HG1 := Hd (gb_below (gb_refl w c) hal)
 have HB1 := Hd (hb.trans (hal.mono hb.size))
 have HS1 := Hd (hs.below hal)
 have HW := Hd hW
 have HB := Hd hb
 have HCB := Hd hs.cB
 have hwc : w.heap.size ≠ c := by have := hs.lt; omega
 have HE := Hd (show plainF (wl l) gv ⟨op, ia, ib, ty, cl, nm⟩ f = some f by unfold plainF; simp [h2, h3, h4, h5, h6, h7, h8, h9, h10, h11, h12, h13, h26, h27, h28])
 have q2 : (op == 2) = false := by rw [beq_eq_false_iff_ne]; exact h2
 have q3 : (op == 3) = false := by rw [beq_eq_false_iff_ne]; exact h3
 have q4 : (op == 4) = false := by rw [beq_eq_false_iff_ne]; exact h4
 have q5 : (op == 5) = false := by rw [beq_eq_false_iff_ne]; exact h5
 have q6 : (op == 6) = false := by rw [beq_eq_false_iff_ne]; exact h6
 have q7 : (op == 7) = false := by rw [beq_eq_false_iff_ne]; exact h7
 have q8 : (op == 8) = false := by rw [beq_eq_false_iff_ne]; exact h8
 have q9 : (op == 9) = false := by rw [beq_eq_false_iff_ne]; exact h9
 have q10 : (op == 10) = false := by rw [beq_eq_false_iff_ne]; exact h10
 have q11 : (op == 11) = false := by rw [beq_eq_false_iff_ne]; exact h11
 have q12 : (op == 12) = false := by rw [beq_eq_false_iff_ne]; exact h12
 have q13 : (op == 13) = false := by rw [beq_eq_false_iff_ne]; exact h13
 have q26 : (op == 26) = false := by rw [beq_eq_false_iff_ne]; exact h26
 have q27 : (op == 27) = false := by rw [beq_eq_false_iff_ne]; exact h27
 have q28 : (op == 28) = false := by rw [beq_eq_false_iff_ne]; exact h28
 have e0 := HX1.out.cell 0
 have el := HX1.out.lt
 clear hW hb hs hal h2 h3 h4 h5 h6 h7 h8 h9 h10 h11 h12 h13 h26 h27 h28
 go_enter Tryz.func93, Tryz.ntmps93
 go_upto_region 1 with fail
 rw [← hw1]
 clear hw1
 go_wp2_with fail
 go_end0
 exact ⟨HB1.out, Or.inr ⟨_, HE.out, rfl, HS1.out⟩⟩
theorem rowOwn_set {w : World} {B : Nat} {e : TypeId} {g n cap : Nat} {xs : List Value} (h : w.ownsRow B e 1 (.slice (some ⟨g, 0, none⟩) n cap) n xs) (j : Nat) (u : Value) : (w.setCell ⟨g, j, none⟩ u).ownsRow B e 1 (.slice (some ⟨g, 0, none⟩) n cap) n (xs.set j u) := by
 refine ⟨by rw [List.length_set]; exact h.1, ?_⟩
 rcases h.2 with ⟨hv, _⟩ | ⟨g', cap', cur, hv, hB, hg, hle, hmx, hsz, htk⟩
 · cases hv
 · simp only [Value.slice.injEq, Option.some.injEq, Addr.mk.injEq, and_true, true_and] at hv
   obtain ⟨rfl, rfl⟩ := hv
   refine Or.inr ⟨g, cap, cur.setIfInBounds j u, rfl, hB, block_set1 hg u, hle, hmx, by simpa using hsz, ?_⟩
   rw [Array.toList_setIfInBounds, List.take_set, htk]
theorem KOk.set {L : List ClassR} {f : FrR} (h : KOk L f) (m : Nat) {k : Nm} (hk : kindErr L k = 0) : KOk L ⟨f.loc.set m k, f.st⟩ :=
 ⟨by simpa using h.loc, h.st, fun t ht => by
   rcases List.mem_append.1 ht with ht | ht
   · rcases List.mem_or_eq_of_mem_set ht with ht | rfl
     · exact h.kn t (List.mem_append_left _ ht)
     · exact hk
   · exact h.kn t (List.mem_append_right _ ht)⟩
theorem plain_4 (l : List ClassR) (L : List CP) (b c : Nat) (fr gv : Nm) (f : FrR) (ib : Int) (ty cl nm : Nm) (w0 w : World) (hW : WOk w0 b l L) (hb : Below w0.heap.size w0 w) (hs : Stp (wl l) w w0.heap.size c b fr gv f) (m : Nat) :
   Calls Tryz.prog 93 #[.pointer (some ⟨c, 0, none⟩), .agg #[.int .i64 (4), .int .i64 ((m : Int)), .int .i64 ib, .string ⟨⟨ty⟩⟩, .string ⟨⟨cl⟩⟩, .string ⟨⟨nm⟩⟩]] w (StRes (wl l) (plainF (wl l) gv ⟨4, (m : Int), ib, ty, cl, nm⟩ f) w0.heap.size c b fr gv w0) := by
 obtain ⟨w1, hw1⟩ : ∃ w1, w1 = w.alloc (.cells #[.int .i64 4, .int .i64 (m : Int), .int .i64 ib, .string ⟨⟨ty⟩⟩, .string ⟨⟨cl⟩⟩, .string ⟨⟨nm⟩⟩] 40) := ⟨_, rfl⟩
 have hal : Below w.heap.size w w1 := by rw [hw1]; exact bl_alloc (Below.refl _ _) _
 have HX1 := Hd (show Blk w1 w.heap.size 40 #[.int .i64 4, .int .i64 (m : Int), .int .i64 ib, .string ⟨⟨ty⟩⟩, .string ⟨⟨cl⟩⟩, .string ⟨⟨nm⟩⟩] by rw [hw1]; exact blk_new _ _ _ _ rfl)
 have HG1 := Hd (gb_below (gb_refl w c) hal)
 have HB1 := Hd (hb.trans (hal.mono hb.size))
 have HS1 := Hd (hs.below hal)
 have HW := Hd hW
 have HB := Hd hb
 have HCB := Hd hs.cB
 have hwc : w.heap.size ≠ c := by have := hs.lt; omega
 have HE := Hd (show plainF (wl l) gv ⟨4, (m : Int), ib, ty, cl, nm⟩ f = (f.loc[m]?).elim none fun k => if k = [84] then none else putF f k by unfold plainF; simp)
 have HS0 := Hd hs
 obtain ⟨la, lc, sa, sc, hst⟩ := HS1.out
 have c3 := hst.blk.cell 3
 have hcx := hst.blk.lt
 have hm0 : (0 : Int) ≤ (m : Int) := Int.natCast_nonneg _
 have HKO := Hd hst.kok
 by_cases hm : m < f.loc.length
 · obtain ⟨k, hk⟩ : ∃ k, f.loc[m]? = some k := ⟨_, List.getElem?_eq_getElem hm⟩
   obtain ⟨g, hga, hgl, hgB, hgc, _, hcap⟩ := rowOwn_at hst.lo (j := m) (u := strV k) (by rw [List.getElem?_map, hk]; rfl)
   rw [hga] at c3
   have hmi : (m : Int) < (f.loc.length : Int) := by omega
   have hgc2 : w1.cell? ⟨g, m, none⟩ = some (.string ⟨⟨k⟩⟩) := hgc
   have HL := Hd hk
   have HKK := Hd (HKO.out.kn k (List.mem_append_left _ (List.mem_of_getElem? hk)))
   clear hgc hk hga
   by_cases hk84 : k = [84]
   · subst hk84
     clear hst
     have e0 := HX1.out.cell 0
     have e1 := HX1.out.cell 1
     have el := HX1.out.lt
     have HSC := Hd (And.intro e1 (And.intro c3 hgc2))
     clear hW hb hs hal
     go_enter Tryz.func93, Tryz.ntmps93
     go_upto_region 1 with fail
     rw [← hw1]
     clear hw1
     go_upto_region 7 with fail
     refine Code.wp_mono (Q := PanQ c w1) ?_ ?_
     · rintro e a' w' ⟨rfl, hd', hg'⟩
       go_wp2_with fail
       exact ⟨hd', gb_to_below HB1.out hg' HCB.out, Or.inl ⟨by simp [HE.out, HL.out], rfl⟩⟩
     refine wp_region_held_drew (S := fun W' => W'.cell? ⟨w.heap.size, 1, none⟩ = some (.int .i64 (m : Int)) ∧ W'.cell? ⟨c, 3, none⟩ = some (.slice (some ⟨g, 0, none⟩) f.loc.length lc) ∧ W'.cell? ⟨g, m, none⟩ = some (.string ⟨⟨[84]⟩⟩)) (by kernel_rfl) ?_ (fun hHeld => ?_)
     · exact HSC.out
     refine wpAnyH_take (i := 0) (oi := { dst := some 22, op := Op.fieldAddr 40 (Operand.tmp 3) 1, type := 0, pos := "frame.go:168", after := #[], guard := none }) (v := ?_) rfl (by kernel_rfl) (by kernel_rfl) (by kernel_rfl) (fun _ _ _ h => h) (Or.inl ⟨by rfl, ?_⟩) (by assumption) ?_
     rotate_left
     · (intro w hSw; (try dsimp only at hSw); go_simp; try with_reducible rfl)
     try simp only [Act.put, List.setIfInBounds_toArray, List.set_cons_zero, List.set_cons_succ]
     refine wpAnyH_take (i := 1) (oi := { dst := some 23, op := Op.load 3 (Operand.tmp 22), type := 3, pos := "frame.go:168", after := #[{ on := 0, ground := Ground.data }], guard := none }) (v := ?_) rfl (by kernel_rfl) (by kernel_rfl) (by kernel_rfl) (fun _ _ _ h => h) (Or.inl ⟨by rfl, ?_⟩) (by assumption) ?_
     rotate_left
     · (intro w hSw; (try dsimp only at hSw); go_simp; try with_reducible rfl)
     try simp only [Act.put, List.setIfInBounds_toArray, List.set_cons_zero, List.set_cons_succ]
     refine wpAnyH_take (i := 2) (oi := { dst := some 24, op := Op.move (Operand.tmp 0), type := 168, pos := "frame.go:168", after := #[], guard := none }) (v := ?_) rfl (by kernel_rfl) (by kernel_rfl) (by kernel_rfl) (fun _ _ _ h => h) (Or.inl ⟨by rfl, ?_⟩) (by assumption) ?_
     rotate_left
     · (intro w hSw; (try dsimp only at hSw); go_simp; try with_reducible rfl)
     try simp only [Act.put, List.setIfInBounds_toArray, List.set_cons_zero, List.set_cons_succ]
     refine wpAnyH_take (i := 3) (oi := { dst := some 25, op := Op.nilCheck (Operand.tmp 24), type := 0, pos := "frame.go:168", after := #[{ on := 2, ground := Ground.data }], guard := none }) (v := ?_) rfl (by kernel_rfl) (by kernel_rfl) (by kernel_rfl) (fun _ _ _ h => h) (Or.inl ⟨by rfl, ?_⟩) (by assumption) ?_
     rotate_left
     · (intro w hSw; (try dsimp only at hSw); go_simp; try with_reducible rfl)
     try simp only [Act.put, List.setIfInBounds_toArray, List.set_cons_zero, List.set_cons_succ]
     refine wpAnyH_take (i := 4) (oi := { dst := some 26, op := Op.fieldAddr 171 (Operand.tmp 25) 3, type := 0, pos := "frame.go:168", after := #[{ on := 3, ground := Ground.data }], guard := none }) (v := ?_) rfl (by kernel_rfl) (by kernel_rfl) (by kernel_rfl) (fun _ _ _ h => h) (Or.inl ⟨by rfl, ?_⟩) (by assumption) ?_
     rotate_left
     · (intro w hSw; (try dsimp only at hSw); go_simp; try with_reducible rfl)
     try simp only [Act.put, List.setIfInBounds_toArray, List.set_cons_zero, List.set_cons_succ]
     refine wpAnyH_take (i := 5) (oi := { dst := some 27, op := Op.fieldAddr 67 (Operand.tmp 26) 0, type := 0, pos := "frame.go:168", after := #[{ on := 4, ground := Ground.data }], guard := none }) (v := ?_) rfl (by kernel_rfl) (by kernel_rfl) (by kernel_rfl) (fun _ _ _ h => h) (Or.inl ⟨by rfl, ?_⟩) (by assumption) ?_
     rotate_left
     · (intro w hSw; (try dsimp only at hSw); go_simp; try with_reducible rfl)
     try simp only [Act.put, List.setIfInBounds_toArray, List.set_cons_zero, List.set_cons_succ]
     refine wpAnyH_take (i := 6) (oi := { dst := some 28, op := Op.load 35 (Operand.tmp 27), type := 35, pos := "frame.go:168", after := #[{ on := 5, ground := Ground.data }], guard := none }) (v := ?_) rfl (by kernel_rfl) (by kernel_rfl) (by kernel_rfl) (fun _ _ _ h => h) (Or.inl ⟨by rfl, ?_⟩) (by assumption) ?_
     rotate_left
     · (intro w hSw; (try dsimp only at hSw); go_simp; try with_reducible rfl)
     try simp only [Act.put, List.setIfInBounds_toArray, List.set_cons_zero, List.set_cons_succ]
     refine wpAnyH_take (i := 7) (oi := { dst := some 29, op := Op.call { callee := Callee.builtin Builtin.len, args := #[Operand.tmp 28], argTypes := #[35] }, type := 3, pos := "frame.go:168", after := #[{ on := 6, ground := Ground.data }], guard := none }) (v := ?_) rfl (by kernel_rfl) (by kernel_rfl) (by kernel_rfl) (fun _ _ _ h => h) (Or.inl ⟨by rfl, ?_⟩) (by assumption) ?_
     rotate_left
     · (intro w hSw; (try dsimp only at hSw); go_simp; try with_reducible rfl)
     try simp only [Act.put, List.setIfInBounds_toArray, List.set_cons_zero, List.set_cons_succ]
     refine wpAnyH_take (i := 8) (oi := { dst := some 30, op := Op.binOp BinOp.lss 3 (Operand.tmp 23) (Operand.tmp 29) 3, type := 4, pos := "frame.go:168", after := #[{ on := 1, ground := Ground.data }, { on := 7, ground := Ground.data }], guard := none }) (v := ?_) rfl (by kernel_rfl) (by kernel_rfl) (by kernel_rfl) (fun _ _ _ h => h) (Or.inl ⟨by rfl, ?_⟩) (by assumption) ?_
     rotate_left
     · (intro w hSw; (try dsimp only at hSw); go_simp; try with_reducible rfl)
     try simp only [Act.put, List.setIfInBounds_toArray, List.set_cons_zero, List.set_cons_succ]
     refine wpAnyH_take (i := 9) (oi := { dst := some 31, op := Op.move (Operand.tmp 30), type := 4, pos := "frame.go:168", after := #[{ on := 8, ground := Ground.data }], guard := none }) (v := ?_) rfl (by kernel_rfl) (by kernel_rfl) (by kernel_rfl) (fun _ _ _ h => h) (Or.inl ⟨by rfl, ?_⟩) (by assumption) ?_
     rotate_left
     · (intro w hSw; (try dsimp only at hSw); go_simp; try with_reducible rfl)
     try simp only [Act.put, List.setIfInBounds_toArray, List.set_cons_zero, List.set_cons_succ]
     refine wpAnyH_take (i := 10) (oi := { dst := some 32, op := Op.move (Operand.tmp 0), type := 168, pos := "frame.go:168", after := #[{ on := 9, ground := Ground.guard }], guard := some (9, true) }) (v := ?_) rfl (by kernel_rfl) (by kernel_rfl) (by kernel_rfl) (fun _ _ _ h => h) (Or.inl ⟨by rfl, ?_⟩) (by assumption) ?_
     rotate_left
     · (intro w hSw; (try dsimp only at hSw); go_simp; try with_reducible rfl)
     try simp only [Act.put, List.setIfInBounds_toArray, List.set_cons_zero, List.set_cons_succ]
     refine wpAnyH_take (i := 11) (oi := { dst := some 33, op := Op.nilCheck (Operand.tmp 32), type := 0, pos := "frame.go:168", after := #[{ on := 10, ground := Ground.data }, { on := 9, ground := Ground.guard }], guard := some (9, true) }) (v := ?_) rfl (by kernel_rfl) (by kernel_rfl) (by kernel_rfl) (fun _ _ _ h => h) (Or.inl ⟨by rfl, ?_⟩) (by assumption) ?_
     rotate_left
     · (intro w hSw; (try dsimp only at hSw); go_simp; try with_reducible rfl)
     try simp only [Act.put, List.setIfInBounds_toArray, List.set_cons_zero, List.set_cons_succ]
     refine wpAnyH_take (i := 12) (oi := { dst := some 34, op := Op.fieldAddr 171 (Operand.tmp 33) 3, type := 0, pos := "frame.go:168", after := #[{ on := 11, ground := Ground.data }, { on := 9, ground := Ground.guard }], guard := some (9, true) }) (v := ?_) rfl (by kernel_rfl) (by kernel_rfl) (by kernel_rfl) (fun _ _ _ h => h) (Or.inl ⟨by rfl, ?_⟩) (by assumption) ?_
     rotate_left
     · (intro w hSw; (try dsimp only at hSw); go_simp; try with_reducible rfl)
     try simp only [Act.put, List.setIfInBounds_toArray, List.set_cons_zero, List.set_cons_succ]
     refine wpAnyH_take (i := 13) (oi := { dst := some 35, op := Op.fieldAddr 67 (Operand.tmp 34) 0, type := 0, pos := "frame.go:168", after := #[{ on := 12, ground := Ground.data }, { on := 9, ground := Ground.guard }], guard := some (9, true) }) (v := ?_) rfl (by kernel_rfl) (by kernel_rfl) (by kernel_rfl) (fun _ _ _ h => h) (Or.inl ⟨by rfl, ?_⟩) (by assumption) ?_
     rotate_left
     · (intro w hSw; (try dsimp only at hSw); go_simp; try with_reducible rfl)
     try simp only [Act.put, List.setIfInBounds_toArray, List.set_cons_zero, List.set_cons_succ]
     refine wpAnyH_take (i := 14) (oi := { dst := some 36, op := Op.load 35 (Operand.tmp 35), type := 35, pos := "frame.go:168", after := #[{ on := 13, ground := Ground.data }, { on := 9, ground := Ground.guard }], guard := some (9, true) }) (v := ?_) rfl (by kernel_rfl) (by kernel_rfl) (by kernel_rfl) (fun _ _ _ h => h) (Or.inl ⟨by rfl, ?_⟩) (by assumption) ?_
     rotate_left
     · (intro w hSw; (try dsimp only at hSw); go_simp; try with_reducible rfl)
     try simp only [Act.put, List.setIfInBounds_toArray, List.set_cons_zero, List.set_cons_succ]
     refine wpAnyH_take (i := 15) (oi := { dst := some 37, op := Op.fieldAddr 40 (Operand.tmp 3) 1, type := 0, pos := "frame.go:168", after := #[{ on := 9, ground := Ground.guard }], guard := some (9, true) }) (v := ?_) rfl (by kernel_rfl) (by kernel_rfl) (by kernel_rfl) (fun _ _ _ h => h) (Or.inl ⟨by rfl, ?_⟩) (by assumption) ?_
     rotate_left
     · (intro w hSw; (try dsimp only at hSw); go_simp; try with_reducible rfl)
     try simp only [Act.put, List.setIfInBounds_toArray, List.set_cons_zero, List.set_cons_succ]
     refine wpAnyH_take (i := 16) (oi := { dst := some 38, op := Op.load 3 (Operand.tmp 37), type := 3, pos := "frame.go:168", after := #[{ on := 15, ground := Ground.data }, { on := 9, ground := Ground.guard }], guard := some (9, true) }) (v := ?_) rfl (by kernel_rfl) (by kernel_rfl) (by kernel_rfl) (fun _ _ _ h => h) (Or.inl ⟨by rfl, ?_⟩) (by assumption) ?_
     rotate_left
     · (intro w hSw; (try dsimp only at hSw); go_simp; try with_reducible rfl)
     try simp only [Act.put, List.setIfInBounds_toArray, List.set_cons_zero, List.set_cons_succ]
     refine wpAnyH_take (i := 17) (oi := { dst := some 39, op := Op.indexAddr 35 (Operand.tmp 36) (Operand.tmp 38), type := 0, pos := "frame.go:168", after := #[{ on := 14, ground := Ground.data }, { on := 16, ground := Ground.data }, { on := 9, ground := Ground.guard }], guard := some (9, true) }) (v := ?_) rfl (by kernel_rfl) (by kernel_rfl) (by kernel_rfl) (fun _ _ _ h => h) (Or.inl ⟨by rfl, ?_⟩) (by assumption) ?_
     rotate_left
     · (intro w hSw; (try dsimp only at hSw); go_simp; try with_reducible rfl)
     try simp only [Act.put, List.setIfInBounds_toArray, List.set_cons_zero, List.set_cons_succ]
     refine wpAnyH_take (i := 18) (oi := { dst := some 40, op := Op.load 9 (Operand.tmp 39), type := 9, pos := "frame.go:168", after := #[{ on := 17, ground := Ground.data }, { on := 9, ground := Ground.guard }], guard := some (9, true) }) (v := ?_) rfl (by kernel_rfl) (by kernel_rfl) (by kernel_rfl) (fun _ _ _ h => h) (Or.inl ⟨by rfl, ?_⟩) (by assumption) ?_
     rotate_left
     · (intro w hSw; (try dsimp only at hSw); go_simp; try with_reducible rfl)
     try simp only [Act.put, List.setIfInBounds_toArray, List.set_cons_zero, List.set_cons_succ]
     refine wpAnyH_take (i := 19) (oi := { dst := some 41, op := Op.binOp BinOp.neq 9 (Operand.tmp 40) (Operand.const (Value.string { data := #[84] })) 9, type := 4, pos := "frame.go:168", after := #[{ on := 18, ground := Ground.data }, { on := 9, ground := Ground.guard }], guard := some (9, true) }) (v := ?_) rfl (by kernel_rfl) (by kernel_rfl) (by kernel_rfl) (fun _ _ _ h => h) (Or.inl ⟨by rfl, ?_⟩) (by assumption) ?_
     rotate_left
     · (intro w hSw; (try dsimp only at hSw); go_simp; try with_reducible rfl)
     try simp only [Act.put, List.setIfInBounds_toArray, List.set_cons_zero, List.set_cons_succ]
     refine wpAnyH_take (i := 20) (oi := { dst := some 42, op := Op.pick (Operand.tmp 31) (Operand.tmp 41) (Operand.const (Value.bool false)), type := 4, pos := "frame.go:168", after := #[{ on := 9, ground := Ground.data }, { on := 19, ground := Ground.data }], guard := none }) (v := ?_) rfl (by kernel_rfl) (by kernel_rfl) (by kernel_rfl) (fun _ _ _ h => h) (Or.inl ⟨by rfl, ?_⟩) (by assumption) ?_
     rotate_left
     · (intro w hSw; (try dsimp only at hSw); go_simp; try with_reducible rfl)
     try simp only [Act.put, List.setIfInBounds_toArray, List.set_cons_zero, List.set_cons_succ]
     refine wpAnyH_ready (rs := [21]) (by kernel_rfl) (by simp) ?_
     refine AllReadyH.cons (o := { dst := some 43, op := Op.call { callee := Callee.value (Operand.func 156), args := #[Operand.tmp 42], argTypes := #[4] }, type := 0, pos := "frame.go:168", after := #[{ on := 20, ground := Ground.data }, { on := 9, ground := Ground.chain }], guard := none }) rfl (fun K hK => ?_) AllReadyH.nil
     go_simp
     go_wp2_with ((go_at_call 156; refine (need_false _).mono ?_; rintro e w5 ⟨rfl, rfl⟩))
     exact ⟨rfl, rfl, gb_drew (gb_refl w1 c)⟩
   · have q84 : (k == [84]) = false := by rw [beq_eq_false_iff_ne]; exact hk84
     have HE2 := Hd (show plainF (wl l) gv ⟨4, (m : Int), ib, ty, cl, nm⟩ f = putF f k by rw [HE.out, HL.out]; simp only [Option.elim_some]; rw [if_neg hk84])
     clear hk84
     clear hst
     have e0 := HX1.out.cell 0
     have e1 := HX1.out.cell 1
     have el := HX1.out.lt
     have HSC := Hd (And.intro e1 (And.intro c3 hgc2))
     clear hW hb hs hal
     go_enter Tryz.func93, Tryz.ntmps93
     go_upto_region 1 with fail
     rw [← hw1]
     clear hw1
     go_upto_region 7 with fail
     have HG := Hd (fun (d : Nat) (os : Array Obj) => below_regrown w1 d os)
     have g1 := fun (d : Nat) (os : Array Obj) => (show (grow (redrawn w1 d) os).cell? ⟨w.heap.size, 1, none⟩ = some (.int .i64 (m : Int)) from (HX1.out.below (HG.out d os)).cell 1)
     have g3 := fun (d : Nat) (os : Array Obj) => (show (grow (redrawn w1 d) os).cell? ⟨c, 3, none⟩ = some (.slice (some ⟨g, 0, none⟩) f.loc.length lc) from (World.cell?_of_block ((HG.out d os).block c hcx)).trans c3)
     have g4 := fun (d : Nat) (os : Array Obj) => (show (grow (redrawn w1 d) os).cell? ⟨g, m, none⟩ = some (.string ⟨⟨k⟩⟩) from (World.cell?_of_block ((HG.out d os).block g hgl)).trans hgc2)
     refine wp_region_quiet_below (by kernel_rfl) (by kernel_rfl) ?_
     repeat (first | go_big_quiet_step (with_reducible exact Calls.regrown_of ((need_true _).mono fun e w h => ⟨h.1, by rw [h.2]; exact Below.refl _ _⟩)) | quiet_step (with_reducible exact Calls.regrown_of ((need_true _).mono fun e w h => ⟨h.1, by rw [h.2]; exact Below.refl _ _⟩)))
     refine wpQuiet_nil ?_
     intro _ hw'
     obtain ⟨⟨dq, osq⟩, hw''⟩ := hw'
     subst hw''
     have HBQ := Hd (HB1.out.trans ((HG.out dq osq).mono HB1.out.size))
     have HSQ := Hd (HS1.out.below (HG.out dq osq))
     have y1 := g1 dq osq
     have y3 := g3 dq osq
     have y4 := g4 dq osq
     clear g1 g3 g4 c3 hgc2 e1
     go_wp2_with fail
     refine wp_tail 10 (by kernel_rfl) (by kernel_rfl) ?_
     simp only [List.take_succ_cons, List.take_zero, List.drop_succ_cons, List.drop_zero]
     repeat still_step
     refine wpStill_nil ?_
     go_wp2_with fail
     refine (put_calls (wl l) b c w0.heap.size fr gv f k w0 _ HBQ.out.drew HBQ.out.drew.size (HSQ.out.below (Below.refl _ _).drew) HKK.out).mono ?_
     rintro e w2 ⟨hb2, ⟨hn2, rfl⟩ | ⟨f2, hn2, rfl, hs2⟩⟩
     · have HB2 := Hd hb2
       have HN2 := Hd hn2
       clear hb2 hn2
       go_wp2_with fail
       exact ⟨rfl, HB2.out, Or.inl ⟨by rw [HE2.out, HN2.out], rfl⟩⟩
     · have HB2 := Hd hb2
       have HN2 := Hd hn2
       have HS2 := Hd hs2
       clear hb2 hn2 hs2
       go_wp2_with fail
       go_end0
       exact ⟨HB2.out, Or.inr ⟨f2, by rw [HE2.out, HN2.out], rfl, HS2.out⟩⟩
 · have hmi : ¬ (m : Int) < (f.loc.length : Int) := by omega
   have hmd : decide ((m : Int) < (f.loc.length : Int)) = false := decide_eq_false hmi
   have HL := Hd (show f.loc[m]? = none from List.getElem?_eq_none_iff.2 (by omega))
   clear hst
   have e0 := HX1.out.cell 0
   have e1 := HX1.out.cell 1
   have el := HX1.out.lt
   have HSC := Hd (And.intro e1 c3)
   clear hW hb hs hal
   go_enter Tryz.func93, Tryz.ntmps93
   go_upto_region 1 with fail
   rw [← hw1]
   clear hw1
   go_upto_region 7 with fail
   refine Code.wp_mono (Q := PanQ c w1) ?_ ?_
   · rintro e a' w' ⟨rfl, hd', hg'⟩
     go_wp2_with fail
     exact ⟨hd', gb_to_below HB1.out hg' HCB.out, Or.inl ⟨by simp [HE.out, HL.out], rfl⟩⟩
   refine wp_region_held_drew (S := fun W' => W'.cell? ⟨w.heap.size, 1, none⟩ = some (.int .i64 (m : Int)) ∧ W'.cell? ⟨c, 3, none⟩ = some (.slice la f.loc.length lc)) (by kernel_rfl) ?_ (fun hHeld => ?_)
   · exact HSC.out
   refine wpAnyH_take (i := 0) (oi := { dst := some 22, op := Op.fieldAddr 40 (Operand.tmp 3) 1, type := 0, pos := "frame.go:168", after := #[], guard := none }) (v := ?_) rfl (by kernel_rfl) (by kernel_rfl) (by kernel_rfl) (fun _ _ _ h => h) (Or.inl ⟨by rfl, ?_⟩) (by assumption) ?_
   rotate_left
   · (intro w hSw; (try dsimp only at hSw); go_simp; try with_reducible rfl)
   try simp only [Act.put, List.setIfInBounds_toArray, List.set_cons_zero, List.set_cons_succ]
   refine wpAnyH_take (i := 1) (oi := { dst := some 23, op := Op.load 3 (Operand.tmp 22), type := 3, pos := "frame.go:168", after := #[{ on := 0, ground := Ground.data }], guard := none }) (v := ?_) rfl (by kernel_rfl) (by kernel_rfl) (by kernel_rfl) (fun _ _ _ h => h) (Or.inl ⟨by rfl, ?_⟩) (by assumption) ?_
   rotate_left
   · (intro w hSw; (try dsimp only at hSw); go_simp; try with_reducible rfl)
   try simp only [Act.put, List.setIfInBounds_toArray, List.set_cons_zero, List.set_cons_succ]
   refine wpAnyH_take (i := 2) (oi := { dst := some 24, op := Op.move (Operand.tmp 0), type := 168, pos := "frame.go:168", after := #[], guard := none }) (v := ?_) rfl (by kernel_rfl) (by kernel_rfl) (by kernel_rfl) (fun _ _ _ h => h) (Or.inl ⟨by rfl, ?_⟩) (by assumption) ?_
   rotate_left
   · (intro w hSw; (try dsimp only at hSw); go_simp; try with_reducible rfl)
   try simp only [Act.put, List.setIfInBounds_toArray, List.set_cons_zero, List.set_cons_succ]
   refine wpAnyH_take (i := 3) (oi := { dst := some 25, op := Op.nilCheck (Operand.tmp 24), type := 0, pos := "frame.go:168", after := #[{ on := 2, ground := Ground.data }], guard := none }) (v := ?_) rfl (by kernel_rfl) (by kernel_rfl) (by kernel_rfl) (fun _ _ _ h => h) (Or.inl ⟨by rfl, ?_⟩) (by assumption) ?_
   rotate_left
   · (intro w hSw; (try dsimp only at hSw); go_simp; try with_reducible rfl)
   try simp only [Act.put, List.setIfInBounds_toArray, List.set_cons_zero, List.set_cons_succ]
   refine wpAnyH_take (i := 4) (oi := { dst := some 26, op := Op.fieldAddr 171 (Operand.tmp 25) 3, type := 0, pos := "frame.go:168", after := #[{ on := 3, ground := Ground.data }], guard := none }) (v := ?_) rfl (by kernel_rfl) (by kernel_rfl) (by kernel_rfl) (fun _ _ _ h => h) (Or.inl ⟨by rfl, ?_⟩) (by assumption) ?_
   rotate_left
   · (intro w hSw; (try dsimp only at hSw); go_simp; try with_reducible rfl)
   try simp only [Act.put, List.setIfInBounds_toArray, List.set_cons_zero, List.set_cons_succ]
   refine wpAnyH_take (i := 5) (oi := { dst := some 27, op := Op.fieldAddr 67 (Operand.tmp 26) 0, type := 0, pos := "frame.go:168", after := #[{ on := 4, ground := Ground.data }], guard := none }) (v := ?_) rfl (by kernel_rfl) (by kernel_rfl) (by kernel_rfl) (fun _ _ _ h => h) (Or.inl ⟨by rfl, ?_⟩) (by assumption) ?_
   rotate_left
   · (intro w hSw; (try dsimp only at hSw); go_simp; try with_reducible rfl)
   try simp only [Act.put, List.setIfInBounds_toArray, List.set_cons_zero, List.set_cons_succ]
   refine wpAnyH_take (i := 6) (oi := { dst := some 28, op := Op.load 35 (Operand.tmp 27), type := 35, pos := "frame.go:168", after := #[{ on := 5, ground := Ground.data }], guard := none }) (v := ?_) rfl (by kernel_rfl) (by kernel_rfl) (by kernel_rfl) (fun _ _ _ h => h) (Or.inl ⟨by rfl, ?_⟩) (by assumption) ?_
   rotate_left
   · (intro w hSw; (try dsimp only at hSw); go_simp; try with_reducible rfl)
   try simp only [Act.put, List.setIfInBounds_toArray, List.set_cons_zero, List.set_cons_succ]
   refine wpAnyH_take (i := 7) (oi := { dst := some 29, op := Op.call { callee := Callee.builtin Builtin.len, args := #[Operand.tmp 28], argTypes := #[35] }, type := 3, pos := "frame.go:168", after := #[{ on := 6, ground := Ground.data }], guard := none }) (v := ?_) rfl (by kernel_rfl) (by kernel_rfl) (by kernel_rfl) (fun _ _ _ h => h) (Or.inl ⟨by rfl, ?_⟩) (by assumption) ?_
   rotate_left
   · (intro w hSw; (try dsimp only at hSw); go_simp; try with_reducible rfl)
   try simp only [Act.put, List.setIfInBounds_toArray, List.set_cons_zero, List.set_cons_succ]
   refine wpAnyH_take (i := 8) (oi := { dst := some 30, op := Op.binOp BinOp.lss 3 (Operand.tmp 23) (Operand.tmp 29) 3, type := 4, pos := "frame.go:168", after := #[{ on := 1, ground := Ground.data }, { on := 7, ground := Ground.data }], guard := none }) (v := ?_) rfl (by kernel_rfl) (by kernel_rfl) (by kernel_rfl) (fun _ _ _ h => h) (Or.inl ⟨by rfl, ?_⟩) (by assumption) ?_
   rotate_left
   · (intro w hSw; (try dsimp only at hSw); go_simp; try with_reducible rfl)
   try simp only [Act.put, List.setIfInBounds_toArray, List.set_cons_zero, List.set_cons_succ]
   refine wpAnyH_take (i := 9) (oi := { dst := some 31, op := Op.move (Operand.tmp 30), type := 4, pos := "frame.go:168", after := #[{ on := 8, ground := Ground.data }], guard := none }) (v := ?_) rfl (by kernel_rfl) (by kernel_rfl) (by kernel_rfl) (fun _ _ _ h => h) (Or.inl ⟨by rfl, ?_⟩) (by assumption) ?_
   rotate_left
   · (intro w hSw; (try dsimp only at hSw); go_simp; try with_reducible rfl)
   try simp only [Act.put, List.setIfInBounds_toArray, List.set_cons_zero, List.set_cons_succ]
   refine wpAnyH_take (i := 10) (oi := { dst := some 32, op := Op.move (Operand.tmp 0), type := 168, pos := "frame.go:168", after := #[{ on := 9, ground := Ground.guard }], guard := some (9, true) }) (v := undef) rfl (by kernel_rfl) (by kernel_rfl) (by kernel_rfl) (fun _ _ _ h => h) (Or.inr ⟨by rfl, rfl⟩) (by assumption) ?_
   try simp only [Act.put, List.setIfInBounds_toArray, List.set_cons_zero, List.set_cons_succ]
   refine wpAnyH_take (i := 11) (oi := { dst := some 33, op := Op.nilCheck (Operand.tmp 32), type := 0, pos := "frame.go:168", after := #[{ on := 10, ground := Ground.data }, { on := 9, ground := Ground.guard }], guard := some (9, true) }) (v := undef) rfl (by kernel_rfl) (by kernel_rfl) (by kernel_rfl) (fun _ _ _ h => h) (Or.inr ⟨by rfl, rfl⟩) (by assumption) ?_
   try simp only [Act.put, List.setIfInBounds_toArray, List.set_cons_zero, List.set_cons_succ]
   refine wpAnyH_take (i := 12) (oi := { dst := some 34, op := Op.fieldAddr 171 (Operand.tmp 33) 3, type := 0, pos := "frame.go:168", after := #[{ on := 11, ground := Ground.data }, { on := 9, ground := Ground.guard }], guard := some (9, true) }) (v := undef) rfl (by kernel_rfl) (by kernel_rfl) (by kernel_rfl) (fun _ _ _ h => h) (Or.inr ⟨by rfl, rfl⟩) (by assumption) ?_
   try simp only [Act.put, List.setIfInBounds_toArray, List.set_cons_zero, List.set_cons_succ]
   refine wpAnyH_take (i := 13) (oi := { dst := some 35, op := Op.fieldAddr 67 (Operand.tmp 34) 0, type := 0, pos := "frame.go:168", after := #[{ on := 12, ground := Ground.data }, { on := 9, ground := Ground.guard }], guard := some (9, true) }) (v := undef) rfl (by kernel_rfl) (by kernel_rfl) (by kernel_rfl) (fun _ _ _ h => h) (Or.inr ⟨by rfl, rfl⟩) (by assumption) ?_
   try simp only [Act.put, List.setIfInBounds_toArray, List.set_cons_zero, List.set_cons_succ]
   refine wpAnyH_take (i := 14) (oi := { dst := some 36, op := Op.load 35 (Operand.tmp 35), type := 35, pos := "frame.go:168", after := #[{ on := 13, ground := Ground.data }, { on := 9, ground := Ground.guard }], guard := some (9, true) }) (v := undef) rfl (by kernel_rfl) (by kernel_rfl) (by kernel_rfl) (fun _ _ _ h => h) (Or.inr ⟨by rfl, rfl⟩) (by assumption) ?_
   try simp only [Act.put, List.setIfInBounds_toArray, List.set_cons_zero, List.set_cons_succ]
   refine wpAnyH_take (i := 15) (oi := { dst := some 37, op := Op.fieldAddr 40 (Operand.tmp 3) 1, type := 0, pos := "frame.go:168", after := #[{ on := 9, ground := Ground.guard }], guard := some (9, true) }) (v := undef) rfl (by kernel_rfl) (by kernel_rfl) (by kernel_rfl) (fun _ _ _ h => h) (Or.inr ⟨by rfl, rfl⟩) (by assumption) ?_
   try simp only [Act.put, List.setIfInBounds_toArray, List.set_cons_zero, List.set_cons_succ]
   refine wpAnyH_take (i := 16) (oi := { dst := some 38, op := Op.load 3 (Operand.tmp 37), type := 3, pos := "frame.go:168", after := #[{ on := 15, ground := Ground.data }, { on := 9, ground := Ground.guard }], guard := some (9, true) }) (v := undef) rfl (by kernel_rfl) (by kernel_rfl) (by kernel_rfl) (fun _ _ _ h => h) (Or.inr ⟨by rfl, rfl⟩) (by assumption) ?_
   try simp only [Act.put, List.setIfInBounds_toArray, List.set_cons_zero, List.set_cons_succ]
   refine wpAnyH_take (i := 17) (oi := { dst := some 39, op := Op.indexAddr 35 (Operand.tmp 36) (Operand.tmp 38), type := 0, pos := "frame.go:168", after := #[{ on := 14, ground := Ground.data }, { on := 16, ground := Ground.data }, { on := 9, ground := Ground.guard }], guard := some (9, true) }) (v := undef) rfl (by kernel_rfl) (by kernel_rfl) (by kernel_rfl) (fun _ _ _ h => h) (Or.inr ⟨by rfl, rfl⟩) (by assumption) ?_
   try simp only [Act.put, List.setIfInBounds_toArray, List.set_cons_zero, List.set_cons_succ]
   refine wpAnyH_take (i := 18) (oi := { dst := some 40, op := Op.load 9 (Operand.tmp 39), type := 9, pos := "frame.go:168", after := #[{ on := 17, ground := Ground.data }, { on := 9, ground := Ground.guard }], guard := some (9, true) }) (v := undef) rfl (by kernel_rfl) (by kernel_rfl) (by kernel_rfl) (fun _ _ _ h => h) (Or.inr ⟨by rfl, rfl⟩) (by assumption) ?_
   try simp only [Act.put, List.setIfInBounds_toArray, List.set_cons_zero, List.set_cons_succ]
   refine wpAnyH_take (i := 19) (oi := { dst := some 41, op := Op.binOp BinOp.neq 9 (Operand.tmp 40) (Operand.const (Value.string { data := #[84] })) 9, type := 4, pos := "frame.go:168", after := #[{ on := 18, ground := Ground.data }, { on := 9, ground := Ground.guard }], guard := some (9, true) }) (v := undef) rfl (by kernel_rfl) (by kernel_rfl) (by kernel_rfl) (fun _ _ _ h => h) (Or.inr ⟨by rfl, rfl⟩) (by assumption) ?_
   try simp only [Act.put, List.setIfInBounds_toArray, List.set_cons_zero, List.set_cons_succ]
   refine wpAnyH_take (i := 20) (oi := { dst := some 42, op := Op.pick (Operand.tmp 31) (Operand.tmp 41) (Operand.const (Value.bool false)), type := 4, pos := "frame.go:168", after := #[{ on := 9, ground := Ground.data }, { on := 19, ground := Ground.data }], guard := none }) (v := ?_) rfl (by kernel_rfl) (by kernel_rfl) (by kernel_rfl) (fun _ _ _ h => h) (Or.inl ⟨by rfl, ?_⟩) (by assumption) ?_
   rotate_left
   · (intro w hSw; (try dsimp only at hSw); go_simp; try with_reducible rfl)
   try simp only [Act.put, List.setIfInBounds_toArray, List.set_cons_zero, List.set_cons_succ]
   refine wpAnyH_ready (rs := [21]) (by kernel_rfl) (by simp) ?_
   refine AllReadyH.cons (o := { dst := some 43, op := Op.call { callee := Callee.value (Operand.func 156), args := #[Operand.tmp 42], argTypes := #[4] }, type := 0, pos := "frame.go:168", after := #[{ on := 20, ground := Ground.data }, { on := 9, ground := Ground.chain }], guard := none }) rfl (fun K hK => ?_) AllReadyH.nil
   go_simp
   go_wp2_with ((go_at_call 156; refine (need_false _).mono ?_; rintro e w5 ⟨rfl, rfl⟩))
   exact ⟨rfl, rfl, gb_drew (gb_refl w1 c)⟩
theorem plain_5 (l : List ClassR) (L : List CP) (b c : Nat) (fr gv : Nm) (f : FrR) (ib : Int) (ty cl nm : Nm) (w0 w : World) (hW : WOk w0 b l L) (hb : Below w0.heap.size w0 w) (hs : Stp (wl l) w w0.heap.size c b fr gv f) (m : Nat) :
   Calls Tryz.prog 93 #[.pointer (some ⟨c, 0, none⟩), .agg #[.int .i64 (5), .int .i64 ((m : Int)), .int .i64 ib, .string ⟨⟨ty⟩⟩, .string ⟨⟨cl⟩⟩, .string ⟨⟨nm⟩⟩]] w (StRes (wl l) (plainF (wl l) gv ⟨5, (m : Int), ib, ty, cl, nm⟩ f) w0.heap.size c b fr gv w0) := by
 obtain ⟨w1, hw1⟩ : ∃ w1, w1 = w.alloc (.cells #[.int .i64 5, .int .i64 (m : Int), .int .i64 ib, .string ⟨⟨ty⟩⟩, .string ⟨⟨cl⟩⟩, .string ⟨⟨nm⟩⟩] 40) := ⟨_, rfl⟩
 have hal : Below w.heap.size w w1 := by rw [hw1]; exact bl_alloc (Below.refl _ _) _
 have HX1 := Hd (show Blk w1 w.heap.size 40 #[.int .i64 5, .int .i64 (m : Int), .int .i64 ib, .string ⟨⟨ty⟩⟩, .string ⟨⟨cl⟩⟩, .string ⟨⟨nm⟩⟩] by rw [hw1]; exact blk_new _ _ _ _ rfl)
 have HG1 := Hd (gb_below (gb_refl w c) hal)
 have HB1 := Hd (hb.trans (hal.mono hb.size))
 have HS1 := Hd (hs.below hal)
 have HW := Hd hW
 have HB := Hd hb
 have HCB := Hd hs.cB
 have hwc : w.heap.size ≠ c := by have := hs.lt; omega
 have HE := Hd (show plainF (wl l) gv ⟨5, (m : Int), ib, ty, cl, nm⟩ f = (popF f).elim none fun p => if m < p.2.loc.length then some ⟨p.2.loc.set m p.1, p.2.st⟩ else none by unfold plainF; simp)
 have hm0 : (0 : Int) ≤ (m : Int) := Int.natCast_nonneg _
 have e0 := HX1.out.cell 0
 have e1 := HX1.out.cell 1
 have el := HX1.out.lt
 clear hW hb hs hal 
 go_enter Tryz.func93, Tryz.ntmps93
 go_upto_region 1 with fail
 rw [← hw1]
 clear hw1
 go_wp2_with fail
 refine (pop_calls (wl l) b c w0.heap.size fr gv f _ HS1.out).mono ?_
 rintro e w2 ⟨hg2, ⟨hn2, rfl⟩ | ⟨k2, f2, hn2, rfl, hs2⟩⟩
 · have HB2 := Hd (gb_to_below HB1.out hg2 HCB.out)
   have HN2 := Hd hn2
   clear hg2 hn2
   go_wp2_with fail
   exact ⟨rfl, HB2.out, Or.inl ⟨by simp [putO, HE.out, HN2.out], rfl⟩⟩
 have HN2 := Hd hn2
 have HS2 := Hd hs2
 have HB2 := Hd (gb_to_below HB1.out hg2 HCB.out)
 have HX2 := Hd (gb_blk hg2 HX1.out hwc)
 clear hg2 hn2 hs2
 clear e0 e1 el
 have e0 := HX2.out.cell 0
 have e1 := HX2.out.cell 1
 have el := HX2.out.lt
 go_wp2_with fail
 obtain ⟨la, lc, sa, sc, hst⟩ := HS2.out
 have c3 := hst.blk.cell 3
 have hcx := hst.blk.lt
 have HST := Hd hst
 have HKK := Hd (HS1.out.kok.pop HN2.out).2.1
 by_cases hm : m < f2.loc.length
 · obtain ⟨k3, hk3⟩ : ∃ k, f2.loc[m]? = some k := ⟨_, List.getElem?_eq_getElem hm⟩
   obtain ⟨g, hga, hgl, hgB, hgc, hgf, hcap⟩ := rowOwn_at hst.lo (j := m) (u := strV k3) (by rw [List.getElem?_map, hk3]; rfl)
   rw [hga] at c3
   have HGA := Hd hga
   have hgc2 : w2.cell? ⟨g, m, none⟩ = some (.string ⟨⟨k3⟩⟩) := hgc
   have hmi : (m : Int) < (f2.loc.length : Int) := by omega
   clear hgc hk3 hga hst
   refine wp_tail 9 (by kernel_rfl) (by kernel_rfl) ?_
   simp only [List.take_succ_cons, List.take_zero, List.drop_succ_cons, List.drop_zero]
   repeat still_step
   refine wpStill_nil ?_
   go_wp2_with fail
   refine (need_true _).mono ?_
   rintro e wn ⟨rfl, rfl⟩
   go_wp2_with fail
   refine wp_tail 9 (by kernel_rfl) (by kernel_rfl) ?_
   simp only [List.take_succ_cons, List.take_zero, List.drop_succ_cons, List.drop_zero]
   repeat still_step
   refine wpStill_nil ?_
   go_wp2_with fail
   have HR := Hd (show Stp (wl l) (w2.drew.drew.setCell ⟨g, m, none⟩ (.string ⟨⟨k2⟩⟩)) w0.heap.size c b fr gv ⟨f2.loc.set m k2, f2.st⟩ from by
     have hs := HST.out
     have hl := hs.lo
     have ha := hs.ap
     rw [HGA.out] at hl ha
     have hgc : c ≠ g := fun e => own_nstp hl hs.blk (by simp [Value.ownBlock, e])
     have hll : (f2.loc.set m k2).length = f2.loc.length := List.length_set
     refine ⟨some ⟨g, 0, none⟩, lc, sa, sc, ?_, ?_, ?_, ?_, hs.cB, hs.kok.set m HKK.out⟩
     · show Blk _ _ _ #[_, _, _, .slice _ (f2.loc.set m k2).length _, _]
       rw [hll, ← HGA.out]
       exact gb_blk (gb_set (gb_refl w2.drew.drew g) m (.string ⟨⟨k2⟩⟩)) hs.blk.drew.drew hgc
     · show World.ownsRow _ _ _ _ (.slice _ (f2.loc.set m k2).length _) (f2.loc.set m k2).length _
       rw [hll, List.map_set]
       exact rowOwn_set hl m _
     · exact own_set hs.so (ha g rfl) _
     · show ∀ k, (Value.slice _ (f2.loc.set m k2).length _).ownBlock = some k → _
       rw [hll]
       exact ha)
   have HBW := Hd (HB2.out.drew.drew.setCell (p := ⟨g, m, none⟩) hgB (.string ⟨⟨k2⟩⟩))
   go_wp2_with fail
   go_end0
   exact ⟨HBW.out, Or.inr ⟨_, by rw [HE.out, HN2.out]; simp only [Option.elim_some]; rw [if_pos hm], rfl, HR.out⟩⟩
 · have hmi : ¬ (m : Int) < (f2.loc.length : Int) := by omega
   have hmd : decide ((m : Int) < (f2.loc.length : Int)) = false := decide_eq_false hmi
   clear hst
   refine wp_tail 9 (by kernel_rfl) (by kernel_rfl) ?_
   simp only [List.take_succ_cons, List.take_zero, List.drop_succ_cons, List.drop_zero]
   repeat still_step
   refine wpStill_nil ?_
   go_wp2_with fail
   refine (need_false _).mono ?_
   rintro e wn ⟨rfl, rfl⟩
   go_wp2_with fail
   exact ⟨rfl, HB2.out.drew, Or.inl ⟨by rw [HE.out, HN2.out]; simp only [Option.elim_some]; rw [if_neg hm], rfl⟩⟩
end Go.Proofs.YtddbnboicmaooaaGreatDoor
