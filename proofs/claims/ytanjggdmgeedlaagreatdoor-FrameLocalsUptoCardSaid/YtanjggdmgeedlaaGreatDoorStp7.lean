/-
  The walk of plain, operation by operation (printed by gen_stp7.py); Load and Store stand in Stp8.
-/
import Derived.Test.YtanjggdmgeedlaaGreatDoorStp6
namespace Go.Proofs.YtanjggdmgeedlaaGreatDoor
set_option linter.unusedVariables false
set_option linter.unusedSimpArgs false
open Go.RowKit Go.Shelf Go.Lib Go.Sort

def otherN (t : Nm) : Nm := if t = [73] then [74] else [73]
def putO (r : Option FrR) (k : Nm) : Option FrR := r.elim none fun g => putF g k
noncomputable def mathF (L : List ClassR) (a : Int) (ty : Nm) (f : FrR) : Option FrR := if a = 12 then some f else if a = 9 ∨ a = 10 ∨ a = 11 then takeF L [[73]] f else takeF L [ty] f
noncomputable def plainF (L : List ClassR) (gv : Nm) (x : InsR) (f : FrR) : Option FrR :=
  if x.op = 2 then putF f x.ty
  else if x.op = 3 then putF f [78]
  else if x.op = 4 then (f.loc[x.a.toNat]?).elim none fun k => if k = [84] then none else putF f k
  else if x.op = 5 then (popF f).elim none fun p => if x.a.toNat < p.2.loc.length then some ⟨p.2.loc.set x.a.toNat p.1, p.2.st⟩ else none
  else if x.op = 6 then (popF f).map (·.2)
  else if x.op = 7 then (popF f).elim none fun p => putO (putF p.2 p.1) p.1
  else if x.op = 8 then (popF f).elim none fun p => (popF p.2).elim none fun q => putO (putF q.2 p.1) q.1
  else if x.op = 9 then (mathF L x.a x.ty f).elim none fun g => putO (takeF L [x.ty] g) x.ty
  else if x.op = 10 then putO (takeF L [otherN x.ty] f) x.ty
  else if x.op = 11 then putO (takeF L [[74], [74]] f) [73]
  else if x.op = 12 then takeF L [[73]] f
  else if x.op = 13 then (refF f).map (·.2)
  else if x.op = 26 then (if gv = [86] then some f else none)
  else if x.op = 27 then (if gv = [86] then none else takeF L [gv] f)
  else if x.op = 28 then takeF L [thing fltN] f
  else some f
theorem kd_int (L : List ClassR) : kindErr L [73] = 0 := kind_ok (k := .ty 0 .int) ⟨by omega, trivial⟩
theorem kd_nul (L : List ClassR) : kindErr L [78] = 0 := kind_nt (Or.inl rfl)
theorem kd_num2 (L : List ClassR) {t : Nm} (h : numB t = true) : kindErr L t = 0 ∧ t.length ≤ 8388608 := by
  unfold numB at h
  rw [Bool.or_eq_true, beq_iff_eq, beq_iff_eq] at h
  rcases h with rfl | rfl
  · exact ⟨kd_int L, by simp⟩
  · exact ⟨kind_ok (k := .ty 0 .long) ⟨by omega, trivial⟩, by simp⟩

set_option maxRecDepth 100000 in
set_option maxHeartbeats 4000000 in
theorem plain_2 (l : List ClassR) (L : List CP) (b c : Nat) (fr gv : Nm) (f : FrR) (ia ib : Int) (ty cl nm : Nm) (w0 w : World) (hW : WOk w0 b l L) (hb : Below w0.heap.size w0 w) (hs : Stp (wl l) w w0.heap.size c b fr gv f) (hn : numB ty = true) :
    Calls Tryz.prog 78 #[.pointer (some ⟨c, 0, none⟩), .agg #[.int .i64 (2), .int .i64 ia, .int .i64 ib, .string ⟨⟨ty⟩⟩, .string ⟨⟨cl⟩⟩, .string ⟨⟨nm⟩⟩]] w (StRes (wl l) (plainF (wl l) gv ⟨2, ia, ib, ty, cl, nm⟩ f) w0.heap.size c b fr gv w0) := by
  obtain ⟨w1, hw1⟩ : ∃ w1, w1 = w.alloc (.cells #[.int .i64 2, .int .i64 ia, .int .i64 ib, .string ⟨⟨ty⟩⟩, .string ⟨⟨cl⟩⟩, .string ⟨⟨nm⟩⟩] 45) := ⟨_, rfl⟩
  have hal : Below w.heap.size w w1 := by rw [hw1]; exact bl_alloc (Below.refl _ _) _
  have HX1 := Lib.hid (show Blk w1 w.heap.size 45 #[.int .i64 2, .int .i64 ia, .int .i64 ib, .string ⟨⟨ty⟩⟩, .string ⟨⟨cl⟩⟩, .string ⟨⟨nm⟩⟩] by rw [hw1]; exact blk_new _ _ _ _ rfl)
  have HG1 := Lib.hid (gb_below (gb_refl w c) hal)
  have HB1 := Lib.hid (hb.trans (hal.mono hb.size))
  have HS1 := Lib.hid (hs.below hal)
  have HW := Lib.hid hW
  have HB := Lib.hid hb
  have HCB := Lib.hid hs.cB
  have hwc : w.heap.size ≠ c := by have := hs.lt; omega
  have HN := Lib.hid (kd_num2 (wl l) hn)
  have HE := Lib.hid (show plainF (wl l) gv ⟨2, ia, ib, ty, cl, nm⟩ f = putF f ty by unfold plainF; simp)
  have e0 := HX1.out.cell 0
  have e3 := HX1.out.cell 3
  have el := HX1.out.lt
  clear hW hb hs hal 
  go_enter Tryz.func78, Tryz.ntmps78
  go_upto_region 1 with fail
  rw [← hw1]
  clear hw1
  go_wp2_with fail
  refine (put_calls (wl l) b c w0.heap.size fr gv f ty w0 _ HB1.out HB1.out.size HS1.out HN.out.1).mono ?_
  rintro e w2 ⟨hb2, ⟨hn2, rfl⟩ | ⟨f2, hn2, rfl, hs2⟩⟩
  · have HB2 := Lib.hid (hb2)
    have HN2 := Lib.hid hn2
    clear hb2 hn2
    go_wp2_with fail
    exact ⟨rfl, HB2.out, Or.inl ⟨by simp [putO, HE.out, HN2.out], rfl⟩⟩
  have HN2 := Lib.hid hn2
  have HS2 := Lib.hid hs2
  have HB2 := Lib.hid hb2
  clear hb2 hn2 hs2
  clear e0 e3 el
  go_wp2_with fail
  go_end0
  exact ⟨HB2.out, Or.inr ⟨_, by simp [putO, HE.out, HN2.out], rfl, HS2.out⟩⟩

set_option maxRecDepth 100000 in
set_option maxHeartbeats 4000000 in
theorem plain_3 (l : List ClassR) (L : List CP) (b c : Nat) (fr gv : Nm) (f : FrR) (ia ib : Int) (ty cl nm : Nm) (w0 w : World) (hW : WOk w0 b l L) (hb : Below w0.heap.size w0 w) (hs : Stp (wl l) w w0.heap.size c b fr gv f) :
    Calls Tryz.prog 78 #[.pointer (some ⟨c, 0, none⟩), .agg #[.int .i64 (3), .int .i64 ia, .int .i64 ib, .string ⟨⟨ty⟩⟩, .string ⟨⟨cl⟩⟩, .string ⟨⟨nm⟩⟩]] w (StRes (wl l) (plainF (wl l) gv ⟨3, ia, ib, ty, cl, nm⟩ f) w0.heap.size c b fr gv w0) := by
  obtain ⟨w1, hw1⟩ : ∃ w1, w1 = w.alloc (.cells #[.int .i64 3, .int .i64 ia, .int .i64 ib, .string ⟨⟨ty⟩⟩, .string ⟨⟨cl⟩⟩, .string ⟨⟨nm⟩⟩] 45) := ⟨_, rfl⟩
  have hal : Below w.heap.size w w1 := by rw [hw1]; exact bl_alloc (Below.refl _ _) _
  have HX1 := Lib.hid (show Blk w1 w.heap.size 45 #[.int .i64 3, .int .i64 ia, .int .i64 ib, .string ⟨⟨ty⟩⟩, .string ⟨⟨cl⟩⟩, .string ⟨⟨nm⟩⟩] by rw [hw1]; exact blk_new _ _ _ _ rfl)
  have HG1 := Lib.hid (gb_below (gb_refl w c) hal)
  have HB1 := Lib.hid (hb.trans (hal.mono hb.size))
  have HS1 := Lib.hid (hs.below hal)
  have HW := Lib.hid hW
  have HB := Lib.hid hb
  have HCB := Lib.hid hs.cB
  have hwc : w.heap.size ≠ c := by have := hs.lt; omega
  have HE := Lib.hid (show plainF (wl l) gv ⟨3, ia, ib, ty, cl, nm⟩ f = putF f [78] by unfold plainF; simp)
  have e0 := HX1.out.cell 0
  have el := HX1.out.lt
  clear hW hb hs hal 
  go_enter Tryz.func78, Tryz.ntmps78
  go_upto_region 1 with fail
  rw [← hw1]
  clear hw1
  go_wp2_with fail
  refine (put_calls (wl l) b c w0.heap.size fr gv f [78] w0 _ HB1.out HB1.out.size HS1.out (kd_nul _)).mono ?_
  rintro e w2 ⟨hb2, ⟨hn2, rfl⟩ | ⟨f2, hn2, rfl, hs2⟩⟩
  · have HB2 := Lib.hid (hb2)
    have HN2 := Lib.hid hn2
    clear hb2 hn2
    go_wp2_with fail
    exact ⟨rfl, HB2.out, Or.inl ⟨by simp [putO, HE.out, HN2.out], rfl⟩⟩
  have HN2 := Lib.hid hn2
  have HS2 := Lib.hid hs2
  have HB2 := Lib.hid hb2
  clear hb2 hn2 hs2
  clear e0 el
  go_wp2_with fail
  go_end0
  exact ⟨HB2.out, Or.inr ⟨_, by simp [putO, HE.out, HN2.out], rfl, HS2.out⟩⟩

set_option maxRecDepth 100000 in
set_option maxHeartbeats 4000000 in
theorem plain_6 (l : List ClassR) (L : List CP) (b c : Nat) (fr gv : Nm) (f : FrR) (ia ib : Int) (ty cl nm : Nm) (w0 w : World) (hW : WOk w0 b l L) (hb : Below w0.heap.size w0 w) (hs : Stp (wl l) w w0.heap.size c b fr gv f) :
    Calls Tryz.prog 78 #[.pointer (some ⟨c, 0, none⟩), .agg #[.int .i64 (6), .int .i64 ia, .int .i64 ib, .string ⟨⟨ty⟩⟩, .string ⟨⟨cl⟩⟩, .string ⟨⟨nm⟩⟩]] w (StRes (wl l) (plainF (wl l) gv ⟨6, ia, ib, ty, cl, nm⟩ f) w0.heap.size c b fr gv w0) := by
  obtain ⟨w1, hw1⟩ : ∃ w1, w1 = w.alloc (.cells #[.int .i64 6, .int .i64 ia, .int .i64 ib, .string ⟨⟨ty⟩⟩, .string ⟨⟨cl⟩⟩, .string ⟨⟨nm⟩⟩] 45) := ⟨_, rfl⟩
  have hal : Below w.heap.size w w1 := by rw [hw1]; exact bl_alloc (Below.refl _ _) _
  have HX1 := Lib.hid (show Blk w1 w.heap.size 45 #[.int .i64 6, .int .i64 ia, .int .i64 ib, .string ⟨⟨ty⟩⟩, .string ⟨⟨cl⟩⟩, .string ⟨⟨nm⟩⟩] by rw [hw1]; exact blk_new _ _ _ _ rfl)
  have HG1 := Lib.hid (gb_below (gb_refl w c) hal)
  have HB1 := Lib.hid (hb.trans (hal.mono hb.size))
  have HS1 := Lib.hid (hs.below hal)
  have HW := Lib.hid hW
  have HB := Lib.hid hb
  have HCB := Lib.hid hs.cB
  have hwc : w.heap.size ≠ c := by have := hs.lt; omega
  have HE := Lib.hid (show plainF (wl l) gv ⟨6, ia, ib, ty, cl, nm⟩ f = (popF f).map (·.2) by unfold plainF; simp)
  have e0 := HX1.out.cell 0
  have el := HX1.out.lt
  clear hW hb hs hal 
  go_enter Tryz.func78, Tryz.ntmps78
  go_upto_region 1 with fail
  rw [← hw1]
  clear hw1
  go_wp2_with fail
  refine (pop_calls (wl l) b c w0.heap.size fr gv f _ HS1.out).mono ?_
  rintro e w2 ⟨hg2, ⟨hn2, rfl⟩ | ⟨k2, f2, hn2, rfl, hs2⟩⟩
  · have HB2 := Lib.hid (gb_to_below HB1.out hg2 HCB.out)
    have HN2 := Lib.hid hn2
    clear hg2 hn2
    go_wp2_with fail
    exact ⟨rfl, HB2.out, Or.inl ⟨by simp [putO, HE.out, HN2.out], rfl⟩⟩
  have HN2 := Lib.hid hn2
  have HS2 := Lib.hid hs2
  have HB2 := Lib.hid (gb_to_below HB1.out hg2 HCB.out)
  have HX2 := Lib.hid (gb_blk hg2 HX1.out hwc)
  clear hg2 hn2 hs2
  clear e0 el
  have e0 := HX2.out.cell 0
  have el := HX2.out.lt
  go_wp2_with fail
  go_end0
  exact ⟨HB2.out, Or.inr ⟨_, by simp [putO, HE.out, HN2.out], rfl, HS2.out⟩⟩

set_option maxRecDepth 100000 in
set_option maxHeartbeats 4000000 in
theorem plain_7 (l : List ClassR) (L : List CP) (b c : Nat) (fr gv : Nm) (f : FrR) (ia ib : Int) (ty cl nm : Nm) (w0 w : World) (hW : WOk w0 b l L) (hb : Below w0.heap.size w0 w) (hs : Stp (wl l) w w0.heap.size c b fr gv f) :
    Calls Tryz.prog 78 #[.pointer (some ⟨c, 0, none⟩), .agg #[.int .i64 (7), .int .i64 ia, .int .i64 ib, .string ⟨⟨ty⟩⟩, .string ⟨⟨cl⟩⟩, .string ⟨⟨nm⟩⟩]] w (StRes (wl l) (plainF (wl l) gv ⟨7, ia, ib, ty, cl, nm⟩ f) w0.heap.size c b fr gv w0) := by
  obtain ⟨w1, hw1⟩ : ∃ w1, w1 = w.alloc (.cells #[.int .i64 7, .int .i64 ia, .int .i64 ib, .string ⟨⟨ty⟩⟩, .string ⟨⟨cl⟩⟩, .string ⟨⟨nm⟩⟩] 45) := ⟨_, rfl⟩
  have hal : Below w.heap.size w w1 := by rw [hw1]; exact bl_alloc (Below.refl _ _) _
  have HX1 := Lib.hid (show Blk w1 w.heap.size 45 #[.int .i64 7, .int .i64 ia, .int .i64 ib, .string ⟨⟨ty⟩⟩, .string ⟨⟨cl⟩⟩, .string ⟨⟨nm⟩⟩] by rw [hw1]; exact blk_new _ _ _ _ rfl)
  have HG1 := Lib.hid (gb_below (gb_refl w c) hal)
  have HB1 := Lib.hid (hb.trans (hal.mono hb.size))
  have HS1 := Lib.hid (hs.below hal)
  have HW := Lib.hid hW
  have HB := Lib.hid hb
  have HCB := Lib.hid hs.cB
  have hwc : w.heap.size ≠ c := by have := hs.lt; omega
  have HE := Lib.hid (show plainF (wl l) gv ⟨7, ia, ib, ty, cl, nm⟩ f = (popF f).elim none fun p => putO (putF p.2 p.1) p.1 by unfold plainF; simp)
  have e0 := HX1.out.cell 0
  have el := HX1.out.lt
  clear hW hb hs hal 
  go_enter Tryz.func78, Tryz.ntmps78
  go_upto_region 1 with fail
  rw [← hw1]
  clear hw1
  go_wp2_with fail
  refine (pop_calls (wl l) b c w0.heap.size fr gv f _ HS1.out).mono ?_
  rintro e w2 ⟨hg2, ⟨hn2, rfl⟩ | ⟨k2, f2, hn2, rfl, hs2⟩⟩
  · have HB2 := Lib.hid (gb_to_below HB1.out hg2 HCB.out)
    have HN2 := Lib.hid hn2
    clear hg2 hn2
    go_wp2_with fail
    exact ⟨rfl, HB2.out, Or.inl ⟨by simp [putO, HE.out, HN2.out], rfl⟩⟩
  have HN2 := Lib.hid hn2
  have HS2 := Lib.hid hs2
  have HB2 := Lib.hid (gb_to_below HB1.out hg2 HCB.out)
  have HX2 := Lib.hid (gb_blk hg2 HX1.out hwc)
  clear hg2 hn2 hs2
  clear e0 el
  have e0 := HX2.out.cell 0
  have el := HX2.out.lt
  go_wp2_with fail
  have HK2 := Lib.hid (HS1.out.kok.pop HN2.out).2.1
  refine (put_calls (wl l) b c w0.heap.size fr gv f2 k2 w0 _ HB2.out HB2.out.size HS2.out HK2.out).mono ?_
  rintro e w3 ⟨hb3, ⟨hn3, rfl⟩ | ⟨f3, hn3, rfl, hs3⟩⟩
  · have HB3 := Lib.hid (hb3)
    have HN3 := Lib.hid hn3
    clear hb3 hn3
    go_wp2_with fail
    exact ⟨rfl, HB3.out, Or.inl ⟨by simp [putO, HE.out, HN2.out, HN3.out], rfl⟩⟩
  have HN3 := Lib.hid hn3
  have HS3 := Lib.hid hs3
  have HB3 := Lib.hid hb3
  clear hb3 hn3 hs3
  clear e0 el
  go_wp2_with fail
  refine (put_calls (wl l) b c w0.heap.size fr gv f3 k2 w0 _ HB3.out HB3.out.size HS3.out HK2.out).mono ?_
  rintro e w4 ⟨hb4, ⟨hn4, rfl⟩ | ⟨f4, hn4, rfl, hs4⟩⟩
  · have HB4 := Lib.hid (hb4)
    have HN4 := Lib.hid hn4
    clear hb4 hn4
    go_wp2_with fail
    exact ⟨rfl, HB4.out, Or.inl ⟨by simp [putO, HE.out, HN2.out, HN3.out, HN4.out], rfl⟩⟩
  have HN4 := Lib.hid hn4
  have HS4 := Lib.hid hs4
  have HB4 := Lib.hid hb4
  clear hb4 hn4 hs4
  go_wp2_with fail
  go_end0
  exact ⟨HB4.out, Or.inr ⟨_, by simp [putO, HE.out, HN2.out, HN3.out, HN4.out], rfl, HS4.out⟩⟩

set_option maxRecDepth 100000 in
set_option maxHeartbeats 4000000 in
theorem plain_8 (l : List ClassR) (L : List CP) (b c : Nat) (fr gv : Nm) (f : FrR) (ia ib : Int) (ty cl nm : Nm) (w0 w : World) (hW : WOk w0 b l L) (hb : Below w0.heap.size w0 w) (hs : Stp (wl l) w w0.heap.size c b fr gv f) :
    Calls Tryz.prog 78 #[.pointer (some ⟨c, 0, none⟩), .agg #[.int .i64 (8), .int .i64 ia, .int .i64 ib, .string ⟨⟨ty⟩⟩, .string ⟨⟨cl⟩⟩, .string ⟨⟨nm⟩⟩]] w (StRes (wl l) (plainF (wl l) gv ⟨8, ia, ib, ty, cl, nm⟩ f) w0.heap.size c b fr gv w0) := by
  obtain ⟨w1, hw1⟩ : ∃ w1, w1 = w.alloc (.cells #[.int .i64 8, .int .i64 ia, .int .i64 ib, .string ⟨⟨ty⟩⟩, .string ⟨⟨cl⟩⟩, .string ⟨⟨nm⟩⟩] 45) := ⟨_, rfl⟩
  have hal : Below w.heap.size w w1 := by rw [hw1]; exact bl_alloc (Below.refl _ _) _
  have HX1 := Lib.hid (show Blk w1 w.heap.size 45 #[.int .i64 8, .int .i64 ia, .int .i64 ib, .string ⟨⟨ty⟩⟩, .string ⟨⟨cl⟩⟩, .string ⟨⟨nm⟩⟩] by rw [hw1]; exact blk_new _ _ _ _ rfl)
  have HG1 := Lib.hid (gb_below (gb_refl w c) hal)
  have HB1 := Lib.hid (hb.trans (hal.mono hb.size))
  have HS1 := Lib.hid (hs.below hal)
  have HW := Lib.hid hW
  have HB := Lib.hid hb
  have HCB := Lib.hid hs.cB
  have hwc : w.heap.size ≠ c := by have := hs.lt; omega
  have HE := Lib.hid (show plainF (wl l) gv ⟨8, ia, ib, ty, cl, nm⟩ f = (popF f).elim none fun p => (popF p.2).elim none fun q => putO (putF q.2 p.1) q.1 by unfold plainF; simp)
  have e0 := HX1.out.cell 0
  have el := HX1.out.lt
  clear hW hb hs hal 
  go_enter Tryz.func78, Tryz.ntmps78
  go_upto_region 1 with fail
  rw [← hw1]
  clear hw1
  go_wp2_with fail
  refine (pop_calls (wl l) b c w0.heap.size fr gv f _ HS1.out).mono ?_
  rintro e w2 ⟨hg2, ⟨hn2, rfl⟩ | ⟨k2, f2, hn2, rfl, hs2⟩⟩
  · have HB2 := Lib.hid (gb_to_below HB1.out hg2 HCB.out)
    have HN2 := Lib.hid hn2
    clear hg2 hn2
    go_wp2_with fail
    exact ⟨rfl, HB2.out, Or.inl ⟨by simp [putO, HE.out, HN2.out], rfl⟩⟩
  have HN2 := Lib.hid hn2
  have HS2 := Lib.hid hs2
  have HB2 := Lib.hid (gb_to_below HB1.out hg2 HCB.out)
  have HX2 := Lib.hid (gb_blk hg2 HX1.out hwc)
  clear hg2 hn2 hs2
  clear e0 el
  have e0 := HX2.out.cell 0
  have el := HX2.out.lt
  go_wp2_with fail
  refine (pop_calls (wl l) b c w0.heap.size fr gv f2 _ HS2.out).mono ?_
  rintro e w3 ⟨hg3, ⟨hn3, rfl⟩ | ⟨k3, f3, hn3, rfl, hs3⟩⟩
  · have HB3 := Lib.hid (gb_to_below HB2.out hg3 HCB.out)
    have HN3 := Lib.hid hn3
    clear hg3 hn3
    go_wp2_with fail
    exact ⟨rfl, HB3.out, Or.inl ⟨by simp [putO, HE.out, HN2.out, HN3.out], rfl⟩⟩
  have HN3 := Lib.hid hn3
  have HS3 := Lib.hid hs3
  have HB3 := Lib.hid (gb_to_below HB2.out hg3 HCB.out)
  have HX3 := Lib.hid (gb_blk hg3 HX2.out hwc)
  clear hg3 hn3 hs3
  clear e0 el
  have e0 := HX3.out.cell 0
  have el := HX3.out.lt
  go_wp2_with fail
  have HK2 := Lib.hid (HS1.out.kok.pop HN2.out).2.1
  have HK3 := Lib.hid (HS2.out.kok.pop HN3.out).2.1
  refine (put_calls (wl l) b c w0.heap.size fr gv f3 k2 w0 _ HB3.out HB3.out.size HS3.out HK2.out).mono ?_
  rintro e w4 ⟨hb4, ⟨hn4, rfl⟩ | ⟨f4, hn4, rfl, hs4⟩⟩
  · have HB4 := Lib.hid (hb4)
    have HN4 := Lib.hid hn4
    clear hb4 hn4
    go_wp2_with fail
    exact ⟨rfl, HB4.out, Or.inl ⟨by simp [putO, HE.out, HN2.out, HN3.out, HN4.out], rfl⟩⟩
  have HN4 := Lib.hid hn4
  have HS4 := Lib.hid hs4
  have HB4 := Lib.hid hb4
  clear hb4 hn4 hs4
  clear e0 el
  go_wp2_with fail
  refine (put_calls (wl l) b c w0.heap.size fr gv f4 k3 w0 _ HB4.out HB4.out.size HS4.out HK3.out).mono ?_
  rintro e w5 ⟨hb5, ⟨hn5, rfl⟩ | ⟨f5, hn5, rfl, hs5⟩⟩
  · have HB5 := Lib.hid (hb5)
    have HN5 := Lib.hid hn5
    clear hb5 hn5
    go_wp2_with fail
    exact ⟨rfl, HB5.out, Or.inl ⟨by simp [putO, HE.out, HN2.out, HN3.out, HN4.out, HN5.out], rfl⟩⟩
  have HN5 := Lib.hid hn5
  have HS5 := Lib.hid hs5
  have HB5 := Lib.hid hb5
  clear hb5 hn5 hs5
  go_wp2_with fail
  go_end0
  exact ⟨HB5.out, Or.inr ⟨_, by simp [putO, HE.out, HN2.out, HN3.out, HN4.out, HN5.out], rfl, HS5.out⟩⟩

set_option maxRecDepth 100000 in
set_option maxHeartbeats 4000000 in
theorem plain_9_12 (l : List ClassR) (L : List CP) (b c : Nat) (fr gv : Nm) (f : FrR) (ib : Int) (ty cl nm : Nm) (w0 w : World) (hW : WOk w0 b l L) (hb : Below w0.heap.size w0 w) (hs : Stp (wl l) w w0.heap.size c b fr gv f) (hn : numB ty = true) :
    Calls Tryz.prog 78 #[.pointer (some ⟨c, 0, none⟩), .agg #[.int .i64 (9), .int .i64 (12), .int .i64 ib, .string ⟨⟨ty⟩⟩, .string ⟨⟨cl⟩⟩, .string ⟨⟨nm⟩⟩]] w (StRes (wl l) (plainF (wl l) gv ⟨9, 12, ib, ty, cl, nm⟩ f) w0.heap.size c b fr gv w0) := by
  obtain ⟨w1, hw1⟩ : ∃ w1, w1 = w.alloc (.cells #[.int .i64 9, .int .i64 12, .int .i64 ib, .string ⟨⟨ty⟩⟩, .string ⟨⟨cl⟩⟩, .string ⟨⟨nm⟩⟩] 45) := ⟨_, rfl⟩
  have hal : Below w.heap.size w w1 := by rw [hw1]; exact bl_alloc (Below.refl _ _) _
  have HX1 := Lib.hid (show Blk w1 w.heap.size 45 #[.int .i64 9, .int .i64 12, .int .i64 ib, .string ⟨⟨ty⟩⟩, .string ⟨⟨cl⟩⟩, .string ⟨⟨nm⟩⟩] by rw [hw1]; exact blk_new _ _ _ _ rfl)
  have HG1 := Lib.hid (gb_below (gb_refl w c) hal)
  have HB1 := Lib.hid (hb.trans (hal.mono hb.size))
  have HS1 := Lib.hid (hs.below hal)
  have HW := Lib.hid hW
  have HB := Lib.hid hb
  have HCB := Lib.hid hs.cB
  have hwc : w.heap.size ≠ c := by have := hs.lt; omega
  have HN := Lib.hid (kd_num2 (wl l) hn)
  have HE := Lib.hid (show plainF (wl l) gv ⟨9, 12, ib, ty, cl, nm⟩ f = (mathF (wl l) 12 ty f).elim none fun g => putO (takeF (wl l) [ty] g) ty by unfold plainF; simp)
  have HMF := Lib.hid (show mathF (wl l) 12 ty f = some f by unfold mathF; simp)
  have e0 := HX1.out.cell 0
  have e1 := HX1.out.cell 1
  have e3 := HX1.out.cell 3
  have el := HX1.out.lt
  clear hW hb hs hal 
  go_enter Tryz.func78, Tryz.ntmps78
  go_upto_region 1 with fail
  rw [← hw1]
  clear hw1
  go_wp2_with fail
  refine (take1 l L b c fr gv f ty w0 _ HW.out HB1.out HS1.out HN.out.2).mono ?_
  rintro e w2 ⟨hg2, ⟨hn2, rfl⟩ | ⟨f2, hn2, rfl, hs2⟩⟩
  · have HB2 := Lib.hid (gb_to_below HB1.out hg2 HCB.out)
    have HN2 := Lib.hid hn2
    clear hg2 hn2
    go_wp2_with fail
    exact ⟨rfl, HB2.out, Or.inl ⟨by simp [putO, HE.out, HMF.out, HN2.out], rfl⟩⟩
  have HN2 := Lib.hid hn2
  have HS2 := Lib.hid hs2
  have HB2 := Lib.hid (gb_to_below HB1.out hg2 HCB.out)
  have HX2 := Lib.hid (gb_blk hg2 HX1.out hwc)
  clear hg2 hn2 hs2
  clear e0 e1 e3 el
  have e0 := HX2.out.cell 0
  have e1 := HX2.out.cell 1
  have e3 := HX2.out.cell 3
  have el := HX2.out.lt
  go_wp2_with fail
  refine (put_calls (wl l) b c w0.heap.size fr gv f2 ty w0 _ HB2.out HB2.out.size HS2.out HN.out.1).mono ?_
  rintro e w3 ⟨hb3, ⟨hn3, rfl⟩ | ⟨f3, hn3, rfl, hs3⟩⟩
  · have HB3 := Lib.hid (hb3)
    have HN3 := Lib.hid hn3
    clear hb3 hn3
    go_wp2_with fail
    exact ⟨rfl, HB3.out, Or.inl ⟨by simp [putO, HE.out, HMF.out, HN2.out, HN3.out], rfl⟩⟩
  have HN3 := Lib.hid hn3
  have HS3 := Lib.hid hs3
  have HB3 := Lib.hid hb3
  clear hb3 hn3 hs3
  clear e0 e1 e3 el
  go_wp2_with fail
  go_end0
  exact ⟨HB3.out, Or.inr ⟨_, by simp [putO, HE.out, HMF.out, HN2.out, HN3.out], rfl, HS3.out⟩⟩

set_option maxRecDepth 100000 in
set_option maxHeartbeats 4000000 in
theorem plain_9_9 (l : List ClassR) (L : List CP) (b c : Nat) (fr gv : Nm) (f : FrR) (ib : Int) (ty cl nm : Nm) (w0 w : World) (hW : WOk w0 b l L) (hb : Below w0.heap.size w0 w) (hs : Stp (wl l) w w0.heap.size c b fr gv f) (hn : numB ty = true) :
    Calls Tryz.prog 78 #[.pointer (some ⟨c, 0, none⟩), .agg #[.int .i64 (9), .int .i64 (9), .int .i64 ib, .string ⟨⟨ty⟩⟩, .string ⟨⟨cl⟩⟩, .string ⟨⟨nm⟩⟩]] w (StRes (wl l) (plainF (wl l) gv ⟨9, 9, ib, ty, cl, nm⟩ f) w0.heap.size c b fr gv w0) := by
  obtain ⟨w1, hw1⟩ : ∃ w1, w1 = w.alloc (.cells #[.int .i64 9, .int .i64 9, .int .i64 ib, .string ⟨⟨ty⟩⟩, .string ⟨⟨cl⟩⟩, .string ⟨⟨nm⟩⟩] 45) := ⟨_, rfl⟩
  have hal : Below w.heap.size w w1 := by rw [hw1]; exact bl_alloc (Below.refl _ _) _
  have HX1 := Lib.hid (show Blk w1 w.heap.size 45 #[.int .i64 9, .int .i64 9, .int .i64 ib, .string ⟨⟨ty⟩⟩, .string ⟨⟨cl⟩⟩, .string ⟨⟨nm⟩⟩] by rw [hw1]; exact blk_new _ _ _ _ rfl)
  have HG1 := Lib.hid (gb_below (gb_refl w c) hal)
  have HB1 := Lib.hid (hb.trans (hal.mono hb.size))
  have HS1 := Lib.hid (hs.below hal)
  have HW := Lib.hid hW
  have HB := Lib.hid hb
  have HCB := Lib.hid hs.cB
  have hwc : w.heap.size ≠ c := by have := hs.lt; omega
  have HN := Lib.hid (kd_num2 (wl l) hn)
  have HE := Lib.hid (show plainF (wl l) gv ⟨9, 9, ib, ty, cl, nm⟩ f = (mathF (wl l) 9 ty f).elim none fun g => putO (takeF (wl l) [ty] g) ty by unfold plainF; simp)
  have HMF := Lib.hid (show mathF (wl l) 9 ty f = takeF (wl l) [[73]] f by unfold mathF; simp)
  have e0 := HX1.out.cell 0
  have e1 := HX1.out.cell 1
  have e3 := HX1.out.cell 3
  have el := HX1.out.lt
  clear hW hb hs hal 
  go_enter Tryz.func78, Tryz.ntmps78
  go_upto_region 1 with fail
  rw [← hw1]
  clear hw1
  go_wp2_with fail
  refine (take1 l L b c fr gv f [73] w0 _ HW.out HB1.out HS1.out (by decide)).mono ?_
  rintro e w2 ⟨hg2, ⟨hn2, rfl⟩ | ⟨f2, hn2, rfl, hs2⟩⟩
  · have HB2 := Lib.hid (gb_to_below HB1.out hg2 HCB.out)
    have HN2 := Lib.hid hn2
    clear hg2 hn2
    go_wp2_with fail
    exact ⟨rfl, HB2.out, Or.inl ⟨by simp [putO, HE.out, HMF.out, HN2.out], rfl⟩⟩
  have HN2 := Lib.hid hn2
  have HS2 := Lib.hid hs2
  have HB2 := Lib.hid (gb_to_below HB1.out hg2 HCB.out)
  have HX2 := Lib.hid (gb_blk hg2 HX1.out hwc)
  clear hg2 hn2 hs2
  clear e0 e1 e3 el
  have e0 := HX2.out.cell 0
  have e1 := HX2.out.cell 1
  have e3 := HX2.out.cell 3
  have el := HX2.out.lt
  go_wp2_with fail
  refine (take1 l L b c fr gv f2 ty w0 _ HW.out HB2.out HS2.out HN.out.2).mono ?_
  rintro e w3 ⟨hg3, ⟨hn3, rfl⟩ | ⟨f3, hn3, rfl, hs3⟩⟩
  · have HB3 := Lib.hid (gb_to_below HB2.out hg3 HCB.out)
    have HN3 := Lib.hid hn3
    clear hg3 hn3
    go_wp2_with fail
    exact ⟨rfl, HB3.out, Or.inl ⟨by simp [putO, HE.out, HMF.out, HN2.out, HN3.out], rfl⟩⟩
  have HN3 := Lib.hid hn3
  have HS3 := Lib.hid hs3
  have HB3 := Lib.hid (gb_to_below HB2.out hg3 HCB.out)
  have HX3 := Lib.hid (gb_blk hg3 HX2.out hwc)
  clear hg3 hn3 hs3
  clear e0 e1 e3 el
  have e0 := HX3.out.cell 0
  have e1 := HX3.out.cell 1
  have e3 := HX3.out.cell 3
  have el := HX3.out.lt
  go_wp2_with fail
  refine (put_calls (wl l) b c w0.heap.size fr gv f3 ty w0 _ HB3.out HB3.out.size HS3.out HN.out.1).mono ?_
  rintro e w4 ⟨hb4, ⟨hn4, rfl⟩ | ⟨f4, hn4, rfl, hs4⟩⟩
  · have HB4 := Lib.hid (hb4)
    have HN4 := Lib.hid hn4
    clear hb4 hn4
    go_wp2_with fail
    exact ⟨rfl, HB4.out, Or.inl ⟨by simp [putO, HE.out, HMF.out, HN2.out, HN3.out, HN4.out], rfl⟩⟩
  have HN4 := Lib.hid hn4
  have HS4 := Lib.hid hs4
  have HB4 := Lib.hid hb4
  clear hb4 hn4 hs4
  clear e0 e1 e3 el
  go_wp2_with fail
  go_end0
  exact ⟨HB4.out, Or.inr ⟨_, by simp [putO, HE.out, HMF.out, HN2.out, HN3.out, HN4.out], rfl, HS4.out⟩⟩

set_option maxRecDepth 100000 in
set_option maxHeartbeats 4000000 in
theorem plain_9_10 (l : List ClassR) (L : List CP) (b c : Nat) (fr gv : Nm) (f : FrR) (ib : Int) (ty cl nm : Nm) (w0 w : World) (hW : WOk w0 b l L) (hb : Below w0.heap.size w0 w) (hs : Stp (wl l) w w0.heap.size c b fr gv f) (hn : numB ty = true) :
    Calls Tryz.prog 78 #[.pointer (some ⟨c, 0, none⟩), .agg #[.int .i64 (9), .int .i64 (10), .int .i64 ib, .string ⟨⟨ty⟩⟩, .string ⟨⟨cl⟩⟩, .string ⟨⟨nm⟩⟩]] w (StRes (wl l) (plainF (wl l) gv ⟨9, 10, ib, ty, cl, nm⟩ f) w0.heap.size c b fr gv w0) := by
  obtain ⟨w1, hw1⟩ : ∃ w1, w1 = w.alloc (.cells #[.int .i64 9, .int .i64 10, .int .i64 ib, .string ⟨⟨ty⟩⟩, .string ⟨⟨cl⟩⟩, .string ⟨⟨nm⟩⟩] 45) := ⟨_, rfl⟩
  have hal : Below w.heap.size w w1 := by rw [hw1]; exact bl_alloc (Below.refl _ _) _
  have HX1 := Lib.hid (show Blk w1 w.heap.size 45 #[.int .i64 9, .int .i64 10, .int .i64 ib, .string ⟨⟨ty⟩⟩, .string ⟨⟨cl⟩⟩, .string ⟨⟨nm⟩⟩] by rw [hw1]; exact blk_new _ _ _ _ rfl)
  have HG1 := Lib.hid (gb_below (gb_refl w c) hal)
  have HB1 := Lib.hid (hb.trans (hal.mono hb.size))
  have HS1 := Lib.hid (hs.below hal)
  have HW := Lib.hid hW
  have HB := Lib.hid hb
  have HCB := Lib.hid hs.cB
  have hwc : w.heap.size ≠ c := by have := hs.lt; omega
  have HN := Lib.hid (kd_num2 (wl l) hn)
  have HE := Lib.hid (show plainF (wl l) gv ⟨9, 10, ib, ty, cl, nm⟩ f = (mathF (wl l) 10 ty f).elim none fun g => putO (takeF (wl l) [ty] g) ty by unfold plainF; simp)
  have HMF := Lib.hid (show mathF (wl l) 10 ty f = takeF (wl l) [[73]] f by unfold mathF; simp)
  have e0 := HX1.out.cell 0
  have e1 := HX1.out.cell 1
  have e3 := HX1.out.cell 3
  have el := HX1.out.lt
  clear hW hb hs hal 
  go_enter Tryz.func78, Tryz.ntmps78
  go_upto_region 1 with fail
  rw [← hw1]
  clear hw1
  go_wp2_with fail
  refine (take1 l L b c fr gv f [73] w0 _ HW.out HB1.out HS1.out (by decide)).mono ?_
  rintro e w2 ⟨hg2, ⟨hn2, rfl⟩ | ⟨f2, hn2, rfl, hs2⟩⟩
  · have HB2 := Lib.hid (gb_to_below HB1.out hg2 HCB.out)
    have HN2 := Lib.hid hn2
    clear hg2 hn2
    go_wp2_with fail
    exact ⟨rfl, HB2.out, Or.inl ⟨by simp [putO, HE.out, HMF.out, HN2.out], rfl⟩⟩
  have HN2 := Lib.hid hn2
  have HS2 := Lib.hid hs2
  have HB2 := Lib.hid (gb_to_below HB1.out hg2 HCB.out)
  have HX2 := Lib.hid (gb_blk hg2 HX1.out hwc)
  clear hg2 hn2 hs2
  clear e0 e1 e3 el
  have e0 := HX2.out.cell 0
  have e1 := HX2.out.cell 1
  have e3 := HX2.out.cell 3
  have el := HX2.out.lt
  go_wp2_with fail
  refine (take1 l L b c fr gv f2 ty w0 _ HW.out HB2.out HS2.out HN.out.2).mono ?_
  rintro e w3 ⟨hg3, ⟨hn3, rfl⟩ | ⟨f3, hn3, rfl, hs3⟩⟩
  · have HB3 := Lib.hid (gb_to_below HB2.out hg3 HCB.out)
    have HN3 := Lib.hid hn3
    clear hg3 hn3
    go_wp2_with fail
    exact ⟨rfl, HB3.out, Or.inl ⟨by simp [putO, HE.out, HMF.out, HN2.out, HN3.out], rfl⟩⟩
  have HN3 := Lib.hid hn3
  have HS3 := Lib.hid hs3
  have HB3 := Lib.hid (gb_to_below HB2.out hg3 HCB.out)
  have HX3 := Lib.hid (gb_blk hg3 HX2.out hwc)
  clear hg3 hn3 hs3
  clear e0 e1 e3 el
  have e0 := HX3.out.cell 0
  have e1 := HX3.out.cell 1
  have e3 := HX3.out.cell 3
  have el := HX3.out.lt
  go_wp2_with fail
  refine (put_calls (wl l) b c w0.heap.size fr gv f3 ty w0 _ HB3.out HB3.out.size HS3.out HN.out.1).mono ?_
  rintro e w4 ⟨hb4, ⟨hn4, rfl⟩ | ⟨f4, hn4, rfl, hs4⟩⟩
  · have HB4 := Lib.hid (hb4)
    have HN4 := Lib.hid hn4
    clear hb4 hn4
    go_wp2_with fail
    exact ⟨rfl, HB4.out, Or.inl ⟨by simp [putO, HE.out, HMF.out, HN2.out, HN3.out, HN4.out], rfl⟩⟩
  have HN4 := Lib.hid hn4
  have HS4 := Lib.hid hs4
  have HB4 := Lib.hid hb4
  clear hb4 hn4 hs4
  clear e0 e1 e3 el
  go_wp2_with fail
  go_end0
  exact ⟨HB4.out, Or.inr ⟨_, by simp [putO, HE.out, HMF.out, HN2.out, HN3.out, HN4.out], rfl, HS4.out⟩⟩

set_option maxRecDepth 100000 in
set_option maxHeartbeats 4000000 in
theorem plain_9_11 (l : List ClassR) (L : List CP) (b c : Nat) (fr gv : Nm) (f : FrR) (ib : Int) (ty cl nm : Nm) (w0 w : World) (hW : WOk w0 b l L) (hb : Below w0.heap.size w0 w) (hs : Stp (wl l) w w0.heap.size c b fr gv f) (hn : numB ty = true) :
    Calls Tryz.prog 78 #[.pointer (some ⟨c, 0, none⟩), .agg #[.int .i64 (9), .int .i64 (11), .int .i64 ib, .string ⟨⟨ty⟩⟩, .string ⟨⟨cl⟩⟩, .string ⟨⟨nm⟩⟩]] w (StRes (wl l) (plainF (wl l) gv ⟨9, 11, ib, ty, cl, nm⟩ f) w0.heap.size c b fr gv w0) := by
  obtain ⟨w1, hw1⟩ : ∃ w1, w1 = w.alloc (.cells #[.int .i64 9, .int .i64 11, .int .i64 ib, .string ⟨⟨ty⟩⟩, .string ⟨⟨cl⟩⟩, .string ⟨⟨nm⟩⟩] 45) := ⟨_, rfl⟩
  have hal : Below w.heap.size w w1 := by rw [hw1]; exact bl_alloc (Below.refl _ _) _
  have HX1 := Lib.hid (show Blk w1 w.heap.size 45 #[.int .i64 9, .int .i64 11, .int .i64 ib, .string ⟨⟨ty⟩⟩, .string ⟨⟨cl⟩⟩, .string ⟨⟨nm⟩⟩] by rw [hw1]; exact blk_new _ _ _ _ rfl)
  have HG1 := Lib.hid (gb_below (gb_refl w c) hal)
  have HB1 := Lib.hid (hb.trans (hal.mono hb.size))
  have HS1 := Lib.hid (hs.below hal)
  have HW := Lib.hid hW
  have HB := Lib.hid hb
  have HCB := Lib.hid hs.cB
  have hwc : w.heap.size ≠ c := by have := hs.lt; omega
  have HN := Lib.hid (kd_num2 (wl l) hn)
  have HE := Lib.hid (show plainF (wl l) gv ⟨9, 11, ib, ty, cl, nm⟩ f = (mathF (wl l) 11 ty f).elim none fun g => putO (takeF (wl l) [ty] g) ty by unfold plainF; simp)
  have HMF := Lib.hid (show mathF (wl l) 11 ty f = takeF (wl l) [[73]] f by unfold mathF; simp)
  have e0 := HX1.out.cell 0
  have e1 := HX1.out.cell 1
  have e3 := HX1.out.cell 3
  have el := HX1.out.lt
  clear hW hb hs hal 
  go_enter Tryz.func78, Tryz.ntmps78
  go_upto_region 1 with fail
  rw [← hw1]
  clear hw1
  go_wp2_with fail
  refine (take1 l L b c fr gv f [73] w0 _ HW.out HB1.out HS1.out (by decide)).mono ?_
  rintro e w2 ⟨hg2, ⟨hn2, rfl⟩ | ⟨f2, hn2, rfl, hs2⟩⟩
  · have HB2 := Lib.hid (gb_to_below HB1.out hg2 HCB.out)
    have HN2 := Lib.hid hn2
    clear hg2 hn2
    go_wp2_with fail
    exact ⟨rfl, HB2.out, Or.inl ⟨by simp [putO, HE.out, HMF.out, HN2.out], rfl⟩⟩
  have HN2 := Lib.hid hn2
  have HS2 := Lib.hid hs2
  have HB2 := Lib.hid (gb_to_below HB1.out hg2 HCB.out)
  have HX2 := Lib.hid (gb_blk hg2 HX1.out hwc)
  clear hg2 hn2 hs2
  clear e0 e1 e3 el
  have e0 := HX2.out.cell 0
  have e1 := HX2.out.cell 1
  have e3 := HX2.out.cell 3
  have el := HX2.out.lt
  go_wp2_with fail
  refine (take1 l L b c fr gv f2 ty w0 _ HW.out HB2.out HS2.out HN.out.2).mono ?_
  rintro e w3 ⟨hg3, ⟨hn3, rfl⟩ | ⟨f3, hn3, rfl, hs3⟩⟩
  · have HB3 := Lib.hid (gb_to_below HB2.out hg3 HCB.out)
    have HN3 := Lib.hid hn3
    clear hg3 hn3
    go_wp2_with fail
    exact ⟨rfl, HB3.out, Or.inl ⟨by simp [putO, HE.out, HMF.out, HN2.out, HN3.out], rfl⟩⟩
  have HN3 := Lib.hid hn3
  have HS3 := Lib.hid hs3
  have HB3 := Lib.hid (gb_to_below HB2.out hg3 HCB.out)
  have HX3 := Lib.hid (gb_blk hg3 HX2.out hwc)
  clear hg3 hn3 hs3
  clear e0 e1 e3 el
  have e0 := HX3.out.cell 0
  have e1 := HX3.out.cell 1
  have e3 := HX3.out.cell 3
  have el := HX3.out.lt
  go_wp2_with fail
  refine (put_calls (wl l) b c w0.heap.size fr gv f3 ty w0 _ HB3.out HB3.out.size HS3.out HN.out.1).mono ?_
  rintro e w4 ⟨hb4, ⟨hn4, rfl⟩ | ⟨f4, hn4, rfl, hs4⟩⟩
  · have HB4 := Lib.hid (hb4)
    have HN4 := Lib.hid hn4
    clear hb4 hn4
    go_wp2_with fail
    exact ⟨rfl, HB4.out, Or.inl ⟨by simp [putO, HE.out, HMF.out, HN2.out, HN3.out, HN4.out], rfl⟩⟩
  have HN4 := Lib.hid hn4
  have HS4 := Lib.hid hs4
  have HB4 := Lib.hid hb4
  clear hb4 hn4 hs4
  clear e0 e1 e3 el
  go_wp2_with fail
  go_end0
  exact ⟨HB4.out, Or.inr ⟨_, by simp [putO, HE.out, HMF.out, HN2.out, HN3.out, HN4.out], rfl, HS4.out⟩⟩

set_option maxRecDepth 100000 in
set_option maxHeartbeats 4000000 in
theorem plain_9_x (l : List ClassR) (L : List CP) (b c : Nat) (fr gv : Nm) (f : FrR) (ia ib : Int) (ty cl nm : Nm) (w0 w : World) (hW : WOk w0 b l L) (hb : Below w0.heap.size w0 w) (hs : Stp (wl l) w w0.heap.size c b fr gv f) (hn : numB ty = true) (h9 : ia ≠ 9) (h10 : ia ≠ 10) (h11 : ia ≠ 11) (h12 : ia ≠ 12) :
    Calls Tryz.prog 78 #[.pointer (some ⟨c, 0, none⟩), .agg #[.int .i64 (9), .int .i64 ia, .int .i64 ib, .string ⟨⟨ty⟩⟩, .string ⟨⟨cl⟩⟩, .string ⟨⟨nm⟩⟩]] w (StRes (wl l) (plainF (wl l) gv ⟨9, ia, ib, ty, cl, nm⟩ f) w0.heap.size c b fr gv w0) := by
  obtain ⟨w1, hw1⟩ : ∃ w1, w1 = w.alloc (.cells #[.int .i64 9, .int .i64 ia, .int .i64 ib, .string ⟨⟨ty⟩⟩, .string ⟨⟨cl⟩⟩, .string ⟨⟨nm⟩⟩] 45) := ⟨_, rfl⟩
  have hal : Below w.heap.size w w1 := by rw [hw1]; exact bl_alloc (Below.refl _ _) _
  have HX1 := Lib.hid (show Blk w1 w.heap.size 45 #[.int .i64 9, .int .i64 ia, .int .i64 ib, .string ⟨⟨ty⟩⟩, .string ⟨⟨cl⟩⟩, .string ⟨⟨nm⟩⟩] by rw [hw1]; exact blk_new _ _ _ _ rfl)
  have HG1 := Lib.hid (gb_below (gb_refl w c) hal)
  have HB1 := Lib.hid (hb.trans (hal.mono hb.size))
  have HS1 := Lib.hid (hs.below hal)
  have HW := Lib.hid hW
  have HB := Lib.hid hb
  have HCB := Lib.hid hs.cB
  have hwc : w.heap.size ≠ c := by have := hs.lt; omega
  have HN := Lib.hid (kd_num2 (wl l) hn)
  have HE := Lib.hid (show plainF (wl l) gv ⟨9, ia, ib, ty, cl, nm⟩ f = (mathF (wl l) ia ty f).elim none fun g => putO (takeF (wl l) [ty] g) ty by unfold plainF; simp)
  have HMF := Lib.hid (show mathF (wl l) ia ty f = takeF (wl l) [ty] f by unfold mathF; rw [if_neg h12, if_neg (by omega)])
  have q9 : (ia == 9) = false := by rw [beq_eq_false_iff_ne]; exact h9
  have q10 : (ia == 10) = false := by rw [beq_eq_false_iff_ne]; exact h10
  have q11 : (ia == 11) = false := by rw [beq_eq_false_iff_ne]; exact h11
  have q12 : (ia == 12) = false := by rw [beq_eq_false_iff_ne]; exact h12
  have e0 := HX1.out.cell 0
  have e1 := HX1.out.cell 1
  have e3 := HX1.out.cell 3
  have el := HX1.out.lt
  clear hW hb hs hal h9 h10 h11 h12
  go_enter Tryz.func78, Tryz.ntmps78
  go_upto_region 1 with fail
  rw [← hw1]
  clear hw1
  go_wp2_with fail
  refine (take1 l L b c fr gv f ty w0 _ HW.out HB1.out HS1.out HN.out.2).mono ?_
  rintro e w2 ⟨hg2, ⟨hn2, rfl⟩ | ⟨f2, hn2, rfl, hs2⟩⟩
  · have HB2 := Lib.hid (gb_to_below HB1.out hg2 HCB.out)
    have HN2 := Lib.hid hn2
    clear hg2 hn2
    go_wp2_with fail
    exact ⟨rfl, HB2.out, Or.inl ⟨by simp [putO, HE.out, HMF.out, HN2.out], rfl⟩⟩
  have HN2 := Lib.hid hn2
  have HS2 := Lib.hid hs2
  have HB2 := Lib.hid (gb_to_below HB1.out hg2 HCB.out)
  have HX2 := Lib.hid (gb_blk hg2 HX1.out hwc)
  clear hg2 hn2 hs2
  clear e0 e1 e3 el
  have e0 := HX2.out.cell 0
  have e1 := HX2.out.cell 1
  have e3 := HX2.out.cell 3
  have el := HX2.out.lt
  go_wp2_with fail
  refine (take1 l L b c fr gv f2 ty w0 _ HW.out HB2.out HS2.out HN.out.2).mono ?_
  rintro e w3 ⟨hg3, ⟨hn3, rfl⟩ | ⟨f3, hn3, rfl, hs3⟩⟩
  · have HB3 := Lib.hid (gb_to_below HB2.out hg3 HCB.out)
    have HN3 := Lib.hid hn3
    clear hg3 hn3
    go_wp2_with fail
    exact ⟨rfl, HB3.out, Or.inl ⟨by simp [putO, HE.out, HMF.out, HN2.out, HN3.out], rfl⟩⟩
  have HN3 := Lib.hid hn3
  have HS3 := Lib.hid hs3
  have HB3 := Lib.hid (gb_to_below HB2.out hg3 HCB.out)
  have HX3 := Lib.hid (gb_blk hg3 HX2.out hwc)
  clear hg3 hn3 hs3
  clear e0 e1 e3 el
  have e0 := HX3.out.cell 0
  have e1 := HX3.out.cell 1
  have e3 := HX3.out.cell 3
  have el := HX3.out.lt
  go_wp2_with fail
  refine (put_calls (wl l) b c w0.heap.size fr gv f3 ty w0 _ HB3.out HB3.out.size HS3.out HN.out.1).mono ?_
  rintro e w4 ⟨hb4, ⟨hn4, rfl⟩ | ⟨f4, hn4, rfl, hs4⟩⟩
  · have HB4 := Lib.hid (hb4)
    have HN4 := Lib.hid hn4
    clear hb4 hn4
    go_wp2_with fail
    exact ⟨rfl, HB4.out, Or.inl ⟨by simp [putO, HE.out, HMF.out, HN2.out, HN3.out, HN4.out], rfl⟩⟩
  have HN4 := Lib.hid hn4
  have HS4 := Lib.hid hs4
  have HB4 := Lib.hid hb4
  clear hb4 hn4 hs4
  clear e0 e1 e3 el
  go_wp2_with fail
  go_end0
  exact ⟨HB4.out, Or.inr ⟨_, by simp [putO, HE.out, HMF.out, HN2.out, HN3.out, HN4.out], rfl, HS4.out⟩⟩

set_option maxRecDepth 100000 in
set_option maxHeartbeats 4000000 in
theorem plain_11 (l : List ClassR) (L : List CP) (b c : Nat) (fr gv : Nm) (f : FrR) (ia ib : Int) (ty cl nm : Nm) (w0 w : World) (hW : WOk w0 b l L) (hb : Below w0.heap.size w0 w) (hs : Stp (wl l) w w0.heap.size c b fr gv f) :
    Calls Tryz.prog 78 #[.pointer (some ⟨c, 0, none⟩), .agg #[.int .i64 (11), .int .i64 ia, .int .i64 ib, .string ⟨⟨ty⟩⟩, .string ⟨⟨cl⟩⟩, .string ⟨⟨nm⟩⟩]] w (StRes (wl l) (plainF (wl l) gv ⟨11, ia, ib, ty, cl, nm⟩ f) w0.heap.size c b fr gv w0) := by
  obtain ⟨w1, hw1⟩ : ∃ w1, w1 = w.alloc (.cells #[.int .i64 11, .int .i64 ia, .int .i64 ib, .string ⟨⟨ty⟩⟩, .string ⟨⟨cl⟩⟩, .string ⟨⟨nm⟩⟩] 45) := ⟨_, rfl⟩
  have hal : Below w.heap.size w w1 := by rw [hw1]; exact bl_alloc (Below.refl _ _) _
  have HX1 := Lib.hid (show Blk w1 w.heap.size 45 #[.int .i64 11, .int .i64 ia, .int .i64 ib, .string ⟨⟨ty⟩⟩, .string ⟨⟨cl⟩⟩, .string ⟨⟨nm⟩⟩] by rw [hw1]; exact blk_new _ _ _ _ rfl)
  have HG1 := Lib.hid (gb_below (gb_refl w c) hal)
  have HB1 := Lib.hid (hb.trans (hal.mono hb.size))
  have HS1 := Lib.hid (hs.below hal)
  have HW := Lib.hid hW
  have HB := Lib.hid hb
  have HCB := Lib.hid hs.cB
  have hwc : w.heap.size ≠ c := by have := hs.lt; omega
  have HE := Lib.hid (show plainF (wl l) gv ⟨11, ia, ib, ty, cl, nm⟩ f = putO (takeF (wl l) [[74], [74]] f) [73] by unfold plainF; simp)
  have e0 := HX1.out.cell 0
  have el := HX1.out.lt
  clear hW hb hs hal 
  go_enter Tryz.func78, Tryz.ntmps78
  go_upto_region 1 with fail
  rw [← hw1]
  clear hw1
  go_wp2_with fail
  refine (take2 l L b c fr gv f [74] [74] w0 _ HW.out HB1.out HS1.out (by decide) (by decide)).mono ?_
  rintro e w2 ⟨hg2, ⟨hn2, rfl⟩ | ⟨f2, hn2, rfl, hs2⟩⟩
  · have HB2 := Lib.hid (gb_to_below HB1.out hg2 HCB.out)
    have HN2 := Lib.hid hn2
    clear hg2 hn2
    go_wp2_with fail
    exact ⟨rfl, HB2.out, Or.inl ⟨by simp [putO, HE.out, HN2.out], rfl⟩⟩
  have HN2 := Lib.hid hn2
  have HS2 := Lib.hid hs2
  have HB2 := Lib.hid (gb_to_below HB1.out hg2 HCB.out)
  have HX2 := Lib.hid (gb_blk hg2 HX1.out hwc)
  clear hg2 hn2 hs2
  clear e0 el
  have e0 := HX2.out.cell 0
  have el := HX2.out.lt
  go_wp2_with fail
  refine (put_calls (wl l) b c w0.heap.size fr gv f2 [73] w0 _ HB2.out HB2.out.size HS2.out (kd_int _)).mono ?_
  rintro e w3 ⟨hb3, ⟨hn3, rfl⟩ | ⟨f3, hn3, rfl, hs3⟩⟩
  · have HB3 := Lib.hid (hb3)
    have HN3 := Lib.hid hn3
    clear hb3 hn3
    go_wp2_with fail
    exact ⟨rfl, HB3.out, Or.inl ⟨by simp [putO, HE.out, HN2.out, HN3.out], rfl⟩⟩
  have HN3 := Lib.hid hn3
  have HS3 := Lib.hid hs3
  have HB3 := Lib.hid hb3
  clear hb3 hn3 hs3
  clear e0 el
  go_wp2_with fail
  go_end0
  exact ⟨HB3.out, Or.inr ⟨_, by simp [putO, HE.out, HN2.out, HN3.out], rfl, HS3.out⟩⟩

set_option maxRecDepth 100000 in
set_option maxHeartbeats 4000000 in
theorem plain_12 (l : List ClassR) (L : List CP) (b c : Nat) (fr gv : Nm) (f : FrR) (ia ib : Int) (ty cl nm : Nm) (w0 w : World) (hW : WOk w0 b l L) (hb : Below w0.heap.size w0 w) (hs : Stp (wl l) w w0.heap.size c b fr gv f) :
    Calls Tryz.prog 78 #[.pointer (some ⟨c, 0, none⟩), .agg #[.int .i64 (12), .int .i64 ia, .int .i64 ib, .string ⟨⟨ty⟩⟩, .string ⟨⟨cl⟩⟩, .string ⟨⟨nm⟩⟩]] w (StRes (wl l) (plainF (wl l) gv ⟨12, ia, ib, ty, cl, nm⟩ f) w0.heap.size c b fr gv w0) := by
  obtain ⟨w1, hw1⟩ : ∃ w1, w1 = w.alloc (.cells #[.int .i64 12, .int .i64 ia, .int .i64 ib, .string ⟨⟨ty⟩⟩, .string ⟨⟨cl⟩⟩, .string ⟨⟨nm⟩⟩] 45) := ⟨_, rfl⟩
  have hal : Below w.heap.size w w1 := by rw [hw1]; exact bl_alloc (Below.refl _ _) _
  have HX1 := Lib.hid (show Blk w1 w.heap.size 45 #[.int .i64 12, .int .i64 ia, .int .i64 ib, .string ⟨⟨ty⟩⟩, .string ⟨⟨cl⟩⟩, .string ⟨⟨nm⟩⟩] by rw [hw1]; exact blk_new _ _ _ _ rfl)
  have HG1 := Lib.hid (gb_below (gb_refl w c) hal)
  have HB1 := Lib.hid (hb.trans (hal.mono hb.size))
  have HS1 := Lib.hid (hs.below hal)
  have HW := Lib.hid hW
  have HB := Lib.hid hb
  have HCB := Lib.hid hs.cB
  have hwc : w.heap.size ≠ c := by have := hs.lt; omega
  have HE := Lib.hid (show plainF (wl l) gv ⟨12, ia, ib, ty, cl, nm⟩ f = takeF (wl l) [[73]] f by unfold plainF; simp)
  have e0 := HX1.out.cell 0
  have el := HX1.out.lt
  clear hW hb hs hal 
  go_enter Tryz.func78, Tryz.ntmps78
  go_upto_region 1 with fail
  rw [← hw1]
  clear hw1
  go_wp2_with fail
  refine (take1 l L b c fr gv f [73] w0 _ HW.out HB1.out HS1.out (by decide)).mono ?_
  rintro e w2 ⟨hg2, ⟨hn2, rfl⟩ | ⟨f2, hn2, rfl, hs2⟩⟩
  · have HB2 := Lib.hid (gb_to_below HB1.out hg2 HCB.out)
    have HN2 := Lib.hid hn2
    clear hg2 hn2
    go_wp2_with fail
    exact ⟨rfl, HB2.out, Or.inl ⟨by simp [putO, HE.out, HN2.out], rfl⟩⟩
  have HN2 := Lib.hid hn2
  have HS2 := Lib.hid hs2
  have HB2 := Lib.hid (gb_to_below HB1.out hg2 HCB.out)
  have HX2 := Lib.hid (gb_blk hg2 HX1.out hwc)
  clear hg2 hn2 hs2
  clear e0 el
  have e0 := HX2.out.cell 0
  have el := HX2.out.lt
  go_wp2_with fail
  go_end0
  exact ⟨HB2.out, Or.inr ⟨_, by simp [putO, HE.out, HN2.out], rfl, HS2.out⟩⟩

set_option maxRecDepth 100000 in
set_option maxHeartbeats 4000000 in
theorem plain_13 (l : List ClassR) (L : List CP) (b c : Nat) (fr gv : Nm) (f : FrR) (ia ib : Int) (ty cl nm : Nm) (w0 w : World) (hW : WOk w0 b l L) (hb : Below w0.heap.size w0 w) (hs : Stp (wl l) w w0.heap.size c b fr gv f) :
    Calls Tryz.prog 78 #[.pointer (some ⟨c, 0, none⟩), .agg #[.int .i64 (13), .int .i64 ia, .int .i64 ib, .string ⟨⟨ty⟩⟩, .string ⟨⟨cl⟩⟩, .string ⟨⟨nm⟩⟩]] w (StRes (wl l) (plainF (wl l) gv ⟨13, ia, ib, ty, cl, nm⟩ f) w0.heap.size c b fr gv w0) := by
  obtain ⟨w1, hw1⟩ : ∃ w1, w1 = w.alloc (.cells #[.int .i64 13, .int .i64 ia, .int .i64 ib, .string ⟨⟨ty⟩⟩, .string ⟨⟨cl⟩⟩, .string ⟨⟨nm⟩⟩] 45) := ⟨_, rfl⟩
  have hal : Below w.heap.size w w1 := by rw [hw1]; exact bl_alloc (Below.refl _ _) _
  have HX1 := Lib.hid (show Blk w1 w.heap.size 45 #[.int .i64 13, .int .i64 ia, .int .i64 ib, .string ⟨⟨ty⟩⟩, .string ⟨⟨cl⟩⟩, .string ⟨⟨nm⟩⟩] by rw [hw1]; exact blk_new _ _ _ _ rfl)
  have HG1 := Lib.hid (gb_below (gb_refl w c) hal)
  have HB1 := Lib.hid (hb.trans (hal.mono hb.size))
  have HS1 := Lib.hid (hs.below hal)
  have HW := Lib.hid hW
  have HB := Lib.hid hb
  have HCB := Lib.hid hs.cB
  have hwc : w.heap.size ≠ c := by have := hs.lt; omega
  have HE := Lib.hid (show plainF (wl l) gv ⟨13, ia, ib, ty, cl, nm⟩ f = (refF f).map (·.2) by unfold plainF; simp)
  have e0 := HX1.out.cell 0
  have el := HX1.out.lt
  clear hW hb hs hal 
  go_enter Tryz.func78, Tryz.ntmps78
  go_upto_region 1 with fail
  rw [← hw1]
  clear hw1
  go_wp2_with fail
  refine (ref_calls (wl l) b c w0.heap.size fr gv f _ HS1.out).mono ?_
  rintro e w2 ⟨hg2, ⟨hn2, rfl⟩ | ⟨k2, f2, hn2, rfl, hs2⟩⟩
  · have HB2 := Lib.hid (gb_to_below HB1.out hg2 HCB.out)
    have HN2 := Lib.hid hn2
    clear hg2 hn2
    go_wp2_with fail
    exact ⟨rfl, HB2.out, Or.inl ⟨by simp [putO, HE.out, HN2.out], rfl⟩⟩
  have HN2 := Lib.hid hn2
  have HS2 := Lib.hid hs2
  have HB2 := Lib.hid (gb_to_below HB1.out hg2 HCB.out)
  have HX2 := Lib.hid (gb_blk hg2 HX1.out hwc)
  clear hg2 hn2 hs2
  clear e0 el
  have e0 := HX2.out.cell 0
  have el := HX2.out.lt
  go_wp2_with fail
  go_end0
  exact ⟨HB2.out, Or.inr ⟨_, by simp [putO, HE.out, HN2.out], rfl, HS2.out⟩⟩
end Go.Proofs.YtanjggdmgeedlaaGreatDoor
