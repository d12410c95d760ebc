import Derived.Test.YtbnkckjdgpiggaaGreatDoorSb
namespace Go.Proofs.YtbnkckjdgpiggaaGreatDoor
set_option maxRecDepth 100000
set_option maxHeartbeats 16000000
set_option linter.unusedVariables false
set_option linter.unusedSimpArgs false
open Go.RowKit Go.Shelf Go.Lib Go.Sort
def ArrRes (L : List zd) (r : Option FrR) (B c b : Nat) (fr gv : Nm) (w : World) (e : Ending) (w' : World) : Prop :=
 w.grownBy w' (some c) /\ ((r = none /\ e = .panicked zge) \/ ∃ f, r = some f /\ e = .returned (.tuple #[]) /\ Stp L w' B c b fr gv f)
def z9l : za1 := ⟨[], []⟩
def fArr (f : za1) : Array Value := #[.string ⟨⟨f.nm⟩⟩, .string ⟨⟨f.ty⟩⟩]
def FofRes (r : Option (Nm × za1)) (w : World) (e : Ending) (w' : World) : Prop :=
 Below w.heap.size w w' /\ ((r = none /\ e = .returned (.tuple #[.string ⟨#[]⟩, zk3 z9l, .bool false])) \/
   ∃ x f, r = some (x, f) /\ e = .returned (.tuple #[.string ⟨⟨x⟩⟩, zk3 f, .bool true]))
def zzt (x : zal) : Array Value := #[.int .i64 x.op, .int .i64 x.a, .int .i64 x.b, .string ⟨⟨x.ty⟩⟩, .string ⟨⟨x.cl⟩⟩, .string ⟨⟨x.nm⟩⟩]
def z9h (L : List zd) (r : Option Nm) (f : FrR) (B c b : Nat) (fr gv : Nm) (w : World) (e : Ending) (w' : World) : Prop :=
 w.grownBy w' (some c) /\ ((r = none /\ e = .panicked zge) \/ ∃ t, r = some t /\ e = .returned (.string ⟨⟨t⟩⟩) /\ zh L t = 0 /\ Stp L w' B c b fr gv f)
theorem zdp {t : Nm} (h : zi t) : t.length <= 25 := by
 obtain ⟨d, b, rfl, hd, hn⟩ := zjg.1 h
 cases b with
 | int => simp [Kd.text, Bse.text]; omega
 | long => simp [Kd.text, Bse.text]; omega
 | cls n => have := (zdm (hn n rfl)).2; simp [Kd.text, Bse.text]; omega
def FouRes (L : List zd) (fr c n k : Nm) (st : Bool) (w : World) (e : Ending) (w' : World) : Prop :=
 Below w.heap.size w w' /\ ((zin L fr c n k st ≠ 0 /\ e = .returned (.tuple #[.string ⟨#[]⟩, zca zzr z9e, zby (zin L fr c n k st)])) \/
   (zin L fr c n k st = 0 /\ ∃ x m q, zp2 L c n k = some (x, m) /\ e = .returned (.tuple #[.string ⟨⟨x⟩⟩, zca m q, .nilIface])))
noncomputable def z7v (L : List zd) (cl : Nm) (st : Bool) (A : List Nm) (g : Nm) (f : FrR) : Option FrR :=
 (zbk L A.reverse f).elim none fun f1 => (if st = true then some f1 else zbk L [z7 cl] f1).elim none fun f2 => if g = [86] then some f2 else if zh L g ≠ 0 then none else zk7 f2 g
open Classical in
noncomputable def z16 (L : List zd) (fr : Nm) (x : zal) (st : Bool) (f : FrR) : Option FrR :=
 if zin L fr x.cl x.nm x.ty st ≠ 0 then none else if h : ∃ p : List Nm × Nm, zk x.ty p.1 p.2 then z7v L x.cl st h.choose.1 h.choose.2 f else none
def z60 (t : Nm) : Nm := if t = [73] then [74] else [73]
def putO (r : Option FrR) (k : Nm) : Option FrR := r.elim none fun g => zk7 g k
noncomputable def zf1 (L : List zd) (a : Int) (ty : Nm) (f : FrR) : Option FrR := if a = 12 then some f else if a = 9 \/ a = 10 \/ a = 11 then zbk L [[73]] f else zbk L [ty] f
noncomputable def za2 (L : List zd) (gv : Nm) (x : zal) (f : FrR) : Option FrR :=
 if x.op = 2 then zk7 f x.ty
 else if x.op = 3 then zk7 f [78]
 else if x.op = 4 then (f.loc[x.a.toNat]?).elim none fun k => if k = [84] then none else zk7 f k
 else if x.op = 5 then (zkg f).elim none fun p => if x.a.toNat < p.2.loc.length then some ⟨p.2.loc.set x.a.toNat p.1, p.2.st⟩ else none
 else if x.op = 6 then (zkg f).map (·.2)
 else if x.op = 7 then (zkg f).elim none fun p => putO (zk7 p.2 p.1) p.1
 else if x.op = 8 then (zkg f).elim none fun p => (zkg p.2).elim none fun q => putO (zk7 q.2 p.1) q.1
 else if x.op = 9 then (zf1 L x.a x.ty f).elim none fun g => putO (zbk L [x.ty] g) x.ty
 else if x.op = 10 then putO (zbk L [z60 x.ty] f) x.ty
 else if x.op = 11 then putO (zbk L [[74], [74]] f) [73]
 else if x.op = 12 then zbk L [[73]] f
 else if x.op = 13 then (zvf f).map (·.2)
 else if x.op = 26 then (if gv = [86] then some f else none)
 else if x.op = 27 then (if gv = [86] then none else zbk L [gv] f)
 else if x.op = 28 then zbk L [z7 ztl] f
 else some f
theorem zuu (L : List zd) : zh L [73] = 0 := zgy (k := .ty 0 .int) ⟨by omega, trivial⟩
theorem z7m (L : List zd) : zh L [78] = 0 := zlo (Or.inl rfl)
theorem zeo (L : List zd) {t : Nm} (h : zjf t = true) : zh L t = 0 /\ t.length <= 8388608 := by
 unfold zjf at h
 rw [Bool.or_eq_true, beq_iff_eq, beq_iff_eq] at h
 rcases h with rfl | rfl
 . exact ⟨zuu L, by simp⟩
 . exact ⟨zgy (k := .ty 0 .long) ⟨by omega, trivial⟩, by simp⟩
theorem z5b (l : List zd) (L : List CP) (b c : Nat) (fr gv : Nm) (f : FrR) (ia ib : Int) (ty cl nm : Nm) (w0 w : World) (hW : WOk w0 b l L) (hb : Below w0.heap.size w0 w) (hs : Stp (wl l) w w0.heap.size c b fr gv f) (hn : zjf ty = true) :
   Calls Tryz.prog 162 #[.pointer (some ⟨c, 0, none⟩), .agg #[.int .i64 (2), .int .i64 ia, .int .i64 ib, .string ⟨⟨ty⟩⟩, .string ⟨⟨cl⟩⟩, .string ⟨⟨nm⟩⟩]] w (zji (wl l) (za2 (wl l) gv ⟨2, ia, ib, ty, cl, nm⟩ f) w0.heap.size c b fr gv w0) := by
 obtain ⟨w1, hw1⟩ : ∃ w1, w1 = w.alloc (.cells #[.int .i64 2, .int .i64 ia, .int .i64 ib, .string ⟨⟨ty⟩⟩, .string ⟨⟨cl⟩⟩, .string ⟨⟨nm⟩⟩] 40) := ⟨_, rfl⟩
 have hal : Below w.heap.size w w1 := by rw [hw1]; exact ze (Below.refl _ _) _
 have HX1 := Hq (show Blk w1 w.heap.size 40 #[.int .i64 2, .int .i64 ia, .int .i64 ib, .string ⟨⟨ty⟩⟩, .string ⟨⟨cl⟩⟩, .string ⟨⟨nm⟩⟩] by rw [hw1]; exact zg _ _ _ _ rfl)
 have HG1 := Hq (zay (zp w c) hal)
 have HB1 := Hq (hb.trans (hal.mono hb.size))
 have HS1 := Hq (hs.below hal)
 have HW := Hq hW
 have HB := Hq hb
 have HCB := Hq hs.cB
 have hwc : w.heap.size ≠ c := by have := hs.lt; omega
 have HN := Hq (zeo (wl l) hn)
 have HE := Hq (show za2 (wl l) gv ⟨2, ia, ib, ty, cl, nm⟩ f = zk7 f ty by unfold za2; simp)
 have e0 := HX1.out.cell 0
 have e3 := HX1.out.cell 3
 have el := HX1.out.lt
 clear hW hb hs hal 
 go_enter Tryz.func162, Tryz.ntmps162
 go_upto_region 1 with fail
 rw [<- hw1]
 clear hw1
 go_wp2_with fail
 refine (zeu (wl l) b c w0.heap.size fr gv f ty w0 _ HB1.out HB1.out.size HS1.out HN.out.1).mono ?_
 rintro e w2 ⟨hb2, ⟨hn2, rfl⟩ | ⟨f2, hn2, rfl, hs2⟩⟩
 . have HB2 := Hq (hb2)
   have HN2 := Hq hn2
   clear hb2 hn2
   go_wp2_with fail
   exact ⟨rfl, HB2.out, Or.inl ⟨by simp [putO, HE.out, HN2.out], rfl⟩⟩
 have HN2 := Hq hn2
 have HS2 := Hq hs2
 have HB2 := Hq hb2
 clear hb2 hn2 hs2
 clear e0 e3 el
 go_wp2_with fail
 go_end0
 exact ⟨HB2.out, Or.inr ⟨_, by simp [putO, HE.out, HN2.out], rfl, HS2.out⟩⟩
theorem zwb (l : List zd) (L : List CP) (b c : Nat) (fr gv : Nm) (f : FrR) (ib : Int) (ty cl nm : Nm) (w0 w : World) (hW : WOk w0 b l L) (hb : Below w0.heap.size w0 w) (hs : Stp (wl l) w w0.heap.size c b fr gv f) (hn : zjf ty = true) :
   Calls Tryz.prog 162 #[.pointer (some ⟨c, 0, none⟩), .agg #[.int .i64 (9), .int .i64 (12), .int .i64 ib, .string ⟨⟨ty⟩⟩, .string ⟨⟨cl⟩⟩, .string ⟨⟨nm⟩⟩]] w (zji (wl l) (za2 (wl l) gv ⟨9, 12, ib, ty, cl, nm⟩ f) w0.heap.size c b fr gv w0) := by
 obtain ⟨w1, hw1⟩ : ∃ w1, w1 = w.alloc (.cells #[.int .i64 9, .int .i64 12, .int .i64 ib, .string ⟨⟨ty⟩⟩, .string ⟨⟨cl⟩⟩, .string ⟨⟨nm⟩⟩] 40) := ⟨_, rfl⟩
 have hal : Below w.heap.size w w1 := by rw [hw1]; exact ze (Below.refl _ _) _
 have HX1 := Hq (show Blk w1 w.heap.size 40 #[.int .i64 9, .int .i64 12, .int .i64 ib, .string ⟨⟨ty⟩⟩, .string ⟨⟨cl⟩⟩, .string ⟨⟨nm⟩⟩] by rw [hw1]; exact zg _ _ _ _ rfl)
 have HG1 := Hq (zay (zp w c) hal)
 have HB1 := Hq (hb.trans (hal.mono hb.size))
 have HS1 := Hq (hs.below hal)
 have HW := Hq hW
 have HB := Hq hb
 have HCB := Hq hs.cB
 have hwc : w.heap.size ≠ c := by have := hs.lt; omega
 have HN := Hq (zeo (wl l) hn)
 have HE := Hq (show za2 (wl l) gv ⟨9, 12, ib, ty, cl, nm⟩ f = (zf1 (wl l) 12 ty f).elim none fun g => putO (zbk (wl l) [ty] g) ty by unfold za2; simp)
 have HMF := Hq (show zf1 (wl l) 12 ty f = some f by unfold zf1; simp)
 have e0 := HX1.out.cell 0
 have e1 := HX1.out.cell 1
 have e3 := HX1.out.cell 3
 have el := HX1.out.lt
 clear hW hb hs hal 
 go_enter Tryz.func162, Tryz.ntmps162
 go_upto_region 1 with fail
 rw [<- hw1]
 clear hw1
 go_wp2_with fail
 refine (zm5 l L b c fr gv f ty w0 _ HW.out HB1.out HS1.out HN.out.2).mono ?_
 rintro e w2 ⟨hg2, ⟨hn2, rfl⟩ | ⟨f2, hn2, rfl, hs2⟩⟩
 . have HB2 := Hq (zj HB1.out hg2 HCB.out)
   have HN2 := Hq hn2
   clear hg2 hn2
   go_wp2_with fail
   exact ⟨rfl, HB2.out, Or.inl ⟨by simp [putO, HE.out, HMF.out, HN2.out], rfl⟩⟩
 have HN2 := Hq hn2
 have HS2 := Hq hs2
 have HB2 := Hq (zj HB1.out hg2 HCB.out)
 have HX2 := Hq (zac hg2 HX1.out hwc)
 clear hg2 hn2 hs2
 clear e0 e1 e3 el
 have e0 := HX2.out.cell 0
 have e1 := HX2.out.cell 1
 have e3 := HX2.out.cell 3
 have el := HX2.out.lt
 go_wp2_with fail
 refine (zeu (wl l) b c w0.heap.size fr gv f2 ty w0 _ HB2.out HB2.out.size HS2.out HN.out.1).mono ?_
 rintro e w3 ⟨hb3, ⟨hn3, rfl⟩ | ⟨f3, hn3, rfl, hs3⟩⟩
 . have HB3 := Hq (hb3)
   have HN3 := Hq hn3
   clear hb3 hn3
   go_wp2_with fail
   exact ⟨rfl, HB3.out, Or.inl ⟨by simp [putO, HE.out, HMF.out, HN2.out, HN3.out], rfl⟩⟩
 have HN3 := Hq hn3
 have HS3 := Hq hs3
 have HB3 := Hq hb3
 clear hb3 hn3 hs3
 clear e0 e1 e3 el
 go_wp2_with fail
 go_end0
 exact ⟨HB3.out, Or.inr ⟨_, by simp [putO, HE.out, HMF.out, HN2.out, HN3.out], rfl, HS3.out⟩⟩
theorem zx2 (l : List zd) (L : List CP) (b c : Nat) (fr gv : Nm) (f : FrR) (ib : Int) (ty cl nm : Nm) (w0 w : World) (hW : WOk w0 b l L) (hb : Below w0.heap.size w0 w) (hs : Stp (wl l) w w0.heap.size c b fr gv f) (hn : zjf ty = true) :
   Calls Tryz.prog 162 #[.pointer (some ⟨c, 0, none⟩), .agg #[.int .i64 (9), .int .i64 (9), .int .i64 ib, .string ⟨⟨ty⟩⟩, .string ⟨⟨cl⟩⟩, .string ⟨⟨nm⟩⟩]] w (zji (wl l) (za2 (wl l) gv ⟨9, 9, ib, ty, cl, nm⟩ f) w0.heap.size c b fr gv w0) := by
 obtain ⟨w1, hw1⟩ : ∃ w1, w1 = w.alloc (.cells #[.int .i64 9, .int .i64 9, .int .i64 ib, .string ⟨⟨ty⟩⟩, .string ⟨⟨cl⟩⟩, .string ⟨⟨nm⟩⟩] 40) := ⟨_, rfl⟩
 have hal : Below w.heap.size w w1 := by rw [hw1]; exact ze (Below.refl _ _) _
 have HX1 := Hq (show Blk w1 w.heap.size 40 #[.int .i64 9, .int .i64 9, .int .i64 ib, .string ⟨⟨ty⟩⟩, .string ⟨⟨cl⟩⟩, .string ⟨⟨nm⟩⟩] by rw [hw1]; exact zg _ _ _ _ rfl)
 have HG1 := Hq (zay (zp w c) hal)
 have HB1 := Hq (hb.trans (hal.mono hb.size))
 have HS1 := Hq (hs.below hal)
 have HW := Hq hW
 have HB := Hq hb
 have HCB := Hq hs.cB
 have hwc : w.heap.size ≠ c := by have := hs.lt; omega
 have HN := Hq (zeo (wl l) hn)
 have HE := Hq (show za2 (wl l) gv ⟨9, 9, ib, ty, cl, nm⟩ f = (zf1 (wl l) 9 ty f).elim none fun g => putO (zbk (wl l) [ty] g) ty by unfold za2; simp)
 have HMF := Hq (show zf1 (wl l) 9 ty f = zbk (wl l) [[73]] f by unfold zf1; simp)
 have e0 := HX1.out.cell 0
 have e1 := HX1.out.cell 1
 have e3 := HX1.out.cell 3
 have el := HX1.out.lt
 clear hW hb hs hal 
 go_enter Tryz.func162, Tryz.ntmps162
 go_upto_region 1 with fail
 rw [<- hw1]
 clear hw1
 go_wp2_with fail
 refine (zm5 l L b c fr gv f [73] w0 _ HW.out HB1.out HS1.out (by decide)).mono ?_
 rintro e w2 ⟨hg2, ⟨hn2, rfl⟩ | ⟨f2, hn2, rfl, hs2⟩⟩
 . have HB2 := Hq (zj HB1.out hg2 HCB.out)
   have HN2 := Hq hn2
   clear hg2 hn2
   go_wp2_with fail
   exact ⟨rfl, HB2.out, Or.inl ⟨by simp [putO, HE.out, HMF.out, HN2.out], rfl⟩⟩
 have HN2 := Hq hn2
 have HS2 := Hq hs2
 have HB2 := Hq (zj HB1.out hg2 HCB.out)
 have HX2 := Hq (zac hg2 HX1.out hwc)
 clear hg2 hn2 hs2
 clear e0 e1 e3 el
 have e0 := HX2.out.cell 0
 have e1 := HX2.out.cell 1
 have e3 := HX2.out.cell 3
 have el := HX2.out.lt
 go_wp2_with fail
 refine (zm5 l L b c fr gv f2 ty w0 _ HW.out HB2.out HS2.out HN.out.2).mono ?_
 rintro e w3 ⟨hg3, ⟨hn3, rfl⟩ | ⟨f3, hn3, rfl, hs3⟩⟩
 . have HB3 := Hq (zj HB2.out hg3 HCB.out)
   have HN3 := Hq hn3
   clear hg3 hn3
   go_wp2_with fail
   exact ⟨rfl, HB3.out, Or.inl ⟨by simp [putO, HE.out, HMF.out, HN2.out, HN3.out], rfl⟩⟩
 have HN3 := Hq hn3
 have HS3 := Hq hs3
 have HB3 := Hq (zj HB2.out hg3 HCB.out)
 have HX3 := Hq (zac hg3 HX2.out hwc)
 clear hg3 hn3 hs3
 clear e0 e1 e3 el
 have e0 := HX3.out.cell 0
 have e1 := HX3.out.cell 1
 have e3 := HX3.out.cell 3
 have el := HX3.out.lt
 go_wp2_with fail
 refine (zeu (wl l) b c w0.heap.size fr gv f3 ty w0 _ HB3.out HB3.out.size HS3.out HN.out.1).mono ?_
 rintro e w4 ⟨hb4, ⟨hn4, rfl⟩ | ⟨f4, hn4, rfl, hs4⟩⟩
 . have HB4 := Hq (hb4)
   have HN4 := Hq hn4
   clear hb4 hn4
   go_wp2_with fail
   exact ⟨rfl, HB4.out, Or.inl ⟨by simp [putO, HE.out, HMF.out, HN2.out, HN3.out, HN4.out], rfl⟩⟩
 have HN4 := Hq hn4
 have HS4 := Hq hs4
 have HB4 := Hq hb4
 clear hb4 hn4 hs4
 clear e0 e1 e3 el
 go_wp2_with fail
 go_end0
 exact ⟨HB4.out, Or.inr ⟨_, by simp [putO, HE.out, HMF.out, HN2.out, HN3.out, HN4.out], rfl, HS4.out⟩⟩
theorem zv7 (l : List zd) (L : List CP) (b c : Nat) (fr gv : Nm) (f : FrR) (ib : Int) (ty cl nm : Nm) (w0 w : World) (hW : WOk w0 b l L) (hb : Below w0.heap.size w0 w) (hs : Stp (wl l) w w0.heap.size c b fr gv f) (hn : zjf ty = true) :
   Calls Tryz.prog 162 #[.pointer (some ⟨c, 0, none⟩), .agg #[.int .i64 (9), .int .i64 (10), .int .i64 ib, .string ⟨⟨ty⟩⟩, .string ⟨⟨cl⟩⟩, .string ⟨⟨nm⟩⟩]] w (zji (wl l) (za2 (wl l) gv ⟨9, 10, ib, ty, cl, nm⟩ f) w0.heap.size c b fr gv w0) := by
 obtain ⟨w1, hw1⟩ : ∃ w1, w1 = w.alloc (.cells #[.int .i64 9, .int .i64 10, .int .i64 ib, .string ⟨⟨ty⟩⟩, .string ⟨⟨cl⟩⟩, .string ⟨⟨nm⟩⟩] 40) := ⟨_, rfl⟩
 have hal : Below w.heap.size w w1 := by rw [hw1]; exact ze (Below.refl _ _) _
 have HX1 := Hq (show Blk w1 w.heap.size 40 #[.int .i64 9, .int .i64 10, .int .i64 ib, .string ⟨⟨ty⟩⟩, .string ⟨⟨cl⟩⟩, .string ⟨⟨nm⟩⟩] by rw [hw1]; exact zg _ _ _ _ rfl)
 have HG1 := Hq (zay (zp w c) hal)
 have HB1 := Hq (hb.trans (hal.mono hb.size))
 have HS1 := Hq (hs.below hal)
 have HW := Hq hW
 have HB := Hq hb
 have HCB := Hq hs.cB
 have hwc : w.heap.size ≠ c := by have := hs.lt; omega
 have HN := Hq (zeo (wl l) hn)
 have HE := Hq (show za2 (wl l) gv ⟨9, 10, ib, ty, cl, nm⟩ f = (zf1 (wl l) 10 ty f).elim none fun g => putO (zbk (wl l) [ty] g) ty by unfold za2; simp)
 have HMF := Hq (show zf1 (wl l) 10 ty f = zbk (wl l) [[73]] f by unfold zf1; simp)
 have e0 := HX1.out.cell 0
 have e1 := HX1.out.cell 1
 have e3 := HX1.out.cell 3
 have el := HX1.out.lt
 clear hW hb hs hal 
 go_enter Tryz.func162, Tryz.ntmps162
 go_upto_region 1 with fail
 rw [<- hw1]
 clear hw1
 go_wp2_with fail
 refine (zm5 l L b c fr gv f [73] w0 _ HW.out HB1.out HS1.out (by decide)).mono ?_
 rintro e w2 ⟨hg2, ⟨hn2, rfl⟩ | ⟨f2, hn2, rfl, hs2⟩⟩
 . have HB2 := Hq (zj HB1.out hg2 HCB.out)
   have HN2 := Hq hn2
   clear hg2 hn2
   go_wp2_with fail
   exact ⟨rfl, HB2.out, Or.inl ⟨by simp [putO, HE.out, HMF.out, HN2.out], rfl⟩⟩
 have HN2 := Hq hn2
 have HS2 := Hq hs2
 have HB2 := Hq (zj HB1.out hg2 HCB.out)
 have HX2 := Hq (zac hg2 HX1.out hwc)
 clear hg2 hn2 hs2
 clear e0 e1 e3 el
 have e0 := HX2.out.cell 0
 have e1 := HX2.out.cell 1
 have e3 := HX2.out.cell 3
 have el := HX2.out.lt
 go_wp2_with fail
 refine (zm5 l L b c fr gv f2 ty w0 _ HW.out HB2.out HS2.out HN.out.2).mono ?_
 rintro e w3 ⟨hg3, ⟨hn3, rfl⟩ | ⟨f3, hn3, rfl, hs3⟩⟩
 . have HB3 := Hq (zj HB2.out hg3 HCB.out)
   have HN3 := Hq hn3
   clear hg3 hn3
   go_wp2_with fail
   exact ⟨rfl, HB3.out, Or.inl ⟨by simp [putO, HE.out, HMF.out, HN2.out, HN3.out], rfl⟩⟩
 have HN3 := Hq hn3
 have HS3 := Hq hs3
 have HB3 := Hq (zj HB2.out hg3 HCB.out)
 have HX3 := Hq (zac hg3 HX2.out hwc)
 clear hg3 hn3 hs3
 clear e0 e1 e3 el
 have e0 := HX3.out.cell 0
 have e1 := HX3.out.cell 1
 have e3 := HX3.out.cell 3
 have el := HX3.out.lt
 go_wp2_with fail
 refine (zeu (wl l) b c w0.heap.size fr gv f3 ty w0 _ HB3.out HB3.out.size HS3.out HN.out.1).mono ?_
 rintro e w4 ⟨hb4, ⟨hn4, rfl⟩ | ⟨f4, hn4, rfl, hs4⟩⟩
 . have HB4 := Hq (hb4)
   have HN4 := Hq hn4
   clear hb4 hn4
   go_wp2_with fail
   exact ⟨rfl, HB4.out, Or.inl ⟨by simp [putO, HE.out, HMF.out, HN2.out, HN3.out, HN4.out], rfl⟩⟩
 have HN4 := Hq hn4
 have HS4 := Hq hs4
 have HB4 := Hq hb4
 clear hb4 hn4 hs4
 clear e0 e1 e3 el
 go_wp2_with fail
 go_end0
 exact ⟨HB4.out, Or.inr ⟨_, by simp [putO, HE.out, HMF.out, HN2.out, HN3.out, HN4.out], rfl, HS4.out⟩⟩
theorem zvg (l : List zd) (L : List CP) (b c : Nat) (fr gv : Nm) (f : FrR) (ib : Int) (ty cl nm : Nm) (w0 w : World) (hW : WOk w0 b l L) (hb : Below w0.heap.size w0 w) (hs : Stp (wl l) w w0.heap.size c b fr gv f) (hn : zjf ty = true) :
   Calls Tryz.prog 162 #[.pointer (some ⟨c, 0, none⟩), .agg #[.int .i64 (9), .int .i64 (11), .int .i64 ib, .string ⟨⟨ty⟩⟩, .string ⟨⟨cl⟩⟩, .string ⟨⟨nm⟩⟩]] w (zji (wl l) (za2 (wl l) gv ⟨9, 11, ib, ty, cl, nm⟩ f) w0.heap.size c b fr gv w0) := by
 obtain ⟨w1, hw1⟩ : ∃ w1, w1 = w.alloc (.cells #[.int .i64 9, .int .i64 11, .int .i64 ib, .string ⟨⟨ty⟩⟩, .string ⟨⟨cl⟩⟩, .string ⟨⟨nm⟩⟩] 40) := ⟨_, rfl⟩
 have hal : Below w.heap.size w w1 := by rw [hw1]; exact ze (Below.refl _ _) _
 have HX1 := Hq (show Blk w1 w.heap.size 40 #[.int .i64 9, .int .i64 11, .int .i64 ib, .string ⟨⟨ty⟩⟩, .string ⟨⟨cl⟩⟩, .string ⟨⟨nm⟩⟩] by rw [hw1]; exact zg _ _ _ _ rfl)
 have HG1 := Hq (zay (zp w c) hal)
 have HB1 := Hq (hb.trans (hal.mono hb.size))
 have HS1 := Hq (hs.below hal)
 have HW := Hq hW
 have HB := Hq hb
 have HCB := Hq hs.cB
 have hwc : w.heap.size ≠ c := by have := hs.lt; omega
 have HN := Hq (zeo (wl l) hn)
 have HE := Hq (show za2 (wl l) gv ⟨9, 11, ib, ty, cl, nm⟩ f = (zf1 (wl l) 11 ty f).elim none fun g => putO (zbk (wl l) [ty] g) ty by unfold za2; simp)
 have HMF := Hq (show zf1 (wl l) 11 ty f = zbk (wl l) [[73]] f by unfold zf1; simp)
 have e0 := HX1.out.cell 0
 have e1 := HX1.out.cell 1
 have e3 := HX1.out.cell 3
 have el := HX1.out.lt
 clear hW hb hs hal 
 go_enter Tryz.func162, Tryz.ntmps162
 go_upto_region 1 with fail
 rw [<- hw1]
 clear hw1
 go_wp2_with fail
 refine (zm5 l L b c fr gv f [73] w0 _ HW.out HB1.out HS1.out (by decide)).mono ?_
 rintro e w2 ⟨hg2, ⟨hn2, rfl⟩ | ⟨f2, hn2, rfl, hs2⟩⟩
 . have HB2 := Hq (zj HB1.out hg2 HCB.out)
   have HN2 := Hq hn2
   clear hg2 hn2
   go_wp2_with fail
   exact ⟨rfl, HB2.out, Or.inl ⟨by simp [putO, HE.out, HMF.out, HN2.out], rfl⟩⟩
 have HN2 := Hq hn2
 have HS2 := Hq hs2
 have HB2 := Hq (zj HB1.out hg2 HCB.out)
 have HX2 := Hq (zac hg2 HX1.out hwc)
 clear hg2 hn2 hs2
 clear e0 e1 e3 el
 have e0 := HX2.out.cell 0
 have e1 := HX2.out.cell 1
 have e3 := HX2.out.cell 3
 have el := HX2.out.lt
 go_wp2_with fail
 refine (zm5 l L b c fr gv f2 ty w0 _ HW.out HB2.out HS2.out HN.out.2).mono ?_
 rintro e w3 ⟨hg3, ⟨hn3, rfl⟩ | ⟨f3, hn3, rfl, hs3⟩⟩
 . have HB3 := Hq (zj HB2.out hg3 HCB.out)
   have HN3 := Hq hn3
   clear hg3 hn3
   go_wp2_with fail
   exact ⟨rfl, HB3.out, Or.inl ⟨by simp [putO, HE.out, HMF.out, HN2.out, HN3.out], rfl⟩⟩
 have HN3 := Hq hn3
 have HS3 := Hq hs3
 have HB3 := Hq (zj HB2.out hg3 HCB.out)
 have HX3 := Hq (zac hg3 HX2.out hwc)
 clear hg3 hn3 hs3
 clear e0 e1 e3 el
 have e0 := HX3.out.cell 0
 have e1 := HX3.out.cell 1
 have e3 := HX3.out.cell 3
 have el := HX3.out.lt
 go_wp2_with fail
 refine (zeu (wl l) b c w0.heap.size fr gv f3 ty w0 _ HB3.out HB3.out.size HS3.out HN.out.1).mono ?_
 rintro e w4 ⟨hb4, ⟨hn4, rfl⟩ | ⟨f4, hn4, rfl, hs4⟩⟩
 . have HB4 := Hq (hb4)
   have HN4 := Hq hn4
   clear hb4 hn4
   go_wp2_with fail
   exact ⟨rfl, HB4.out, Or.inl ⟨by simp [putO, HE.out, HMF.out, HN2.out, HN3.out, HN4.out], rfl⟩⟩
 have HN4 := Hq hn4
 have HS4 := Hq hs4
 have HB4 := Hq hb4
 clear hb4 hn4 hs4
 clear e0 e1 e3 el
 go_wp2_with fail
 go_end0
 exact ⟨HB4.out, Or.inr ⟨_, by simp [putO, HE.out, HMF.out, HN2.out, HN3.out, HN4.out], rfl, HS4.out⟩⟩
theorem zyn (l : List zd) (L : List CP) (b c : Nat) (fr gv : Nm) (f : FrR) (ia ib : Int) (ty cl nm : Nm) (w0 w : World) (hW : WOk w0 b l L) (hb : Below w0.heap.size w0 w) (hs : Stp (wl l) w w0.heap.size c b fr gv f) (hn : zjf ty = true) (h9 : ia ≠ 9) (h10 : ia ≠ 10) (h11 : ia ≠ 11) (h12 : ia ≠ 12) :
   Calls Tryz.prog 162 #[.pointer (some ⟨c, 0, none⟩), .agg #[.int .i64 (9), .int .i64 ia, .int .i64 ib, .string ⟨⟨ty⟩⟩, .string ⟨⟨cl⟩⟩, .string ⟨⟨nm⟩⟩]] w (zji (wl l) (za2 (wl l) gv ⟨9, ia, ib, ty, cl, nm⟩ f) w0.heap.size c b fr gv w0) := by
 obtain ⟨w1, hw1⟩ : ∃ w1, w1 = w.alloc (.cells #[.int .i64 9, .int .i64 ia, .int .i64 ib, .string ⟨⟨ty⟩⟩, .string ⟨⟨cl⟩⟩, .string ⟨⟨nm⟩⟩] 40) := ⟨_, rfl⟩
 have hal : Below w.heap.size w w1 := by rw [hw1]; exact ze (Below.refl _ _) _
 have HX1 := Hq (show Blk w1 w.heap.size 40 #[.int .i64 9, .int .i64 ia, .int .i64 ib, .string ⟨⟨ty⟩⟩, .string ⟨⟨cl⟩⟩, .string ⟨⟨nm⟩⟩] by rw [hw1]; exact zg _ _ _ _ rfl)
 have HG1 := Hq (zay (zp w c) hal)
 have HB1 := Hq (hb.trans (hal.mono hb.size))
 have HS1 := Hq (hs.below hal)
 have HW := Hq hW
 have HB := Hq hb
 have HCB := Hq hs.cB
 have hwc : w.heap.size ≠ c := by have := hs.lt; omega
 have HN := Hq (zeo (wl l) hn)
 have HE := Hq (show za2 (wl l) gv ⟨9, ia, ib, ty, cl, nm⟩ f = (zf1 (wl l) ia ty f).elim none fun g => putO (zbk (wl l) [ty] g) ty by unfold za2; simp)
 have HMF := Hq (show zf1 (wl l) ia ty f = zbk (wl l) [ty] f by unfold zf1; rw [if_neg h12, if_neg (by omega)])
 have q9 : (ia == 9) = false := by rw [beq_eq_false_iff_ne]; exact h9
 have q10 : (ia == 10) = false := by rw [beq_eq_false_iff_ne]; exact h10
 have q11 : (ia == 11) = false := by rw [beq_eq_false_iff_ne]; exact h11
 have q12 : (ia == 12) = false := by rw [beq_eq_false_iff_ne]; exact h12
 have e0 := HX1.out.cell 0
 have e1 := HX1.out.cell 1
 have e3 := HX1.out.cell 3
 have el := HX1.out.lt
 clear hW hb hs hal h9 h10 h11 h12
 go_enter Tryz.func162, Tryz.ntmps162
 go_upto_region 1 with fail
 rw [<- hw1]
 clear hw1
 go_wp2_with fail
 refine (zm5 l L b c fr gv f ty w0 _ HW.out HB1.out HS1.out HN.out.2).mono ?_
 rintro e w2 ⟨hg2, ⟨hn2, rfl⟩ | ⟨f2, hn2, rfl, hs2⟩⟩
 . have HB2 := Hq (zj HB1.out hg2 HCB.out)
   have HN2 := Hq hn2
   clear hg2 hn2
   go_wp2_with fail
   exact ⟨rfl, HB2.out, Or.inl ⟨by simp [putO, HE.out, HMF.out, HN2.out], rfl⟩⟩
 have HN2 := Hq hn2
 have HS2 := Hq hs2
 have HB2 := Hq (zj HB1.out hg2 HCB.out)
 have HX2 := Hq (zac hg2 HX1.out hwc)
 clear hg2 hn2 hs2
 clear e0 e1 e3 el
 have e0 := HX2.out.cell 0
 have e1 := HX2.out.cell 1
 have e3 := HX2.out.cell 3
 have el := HX2.out.lt
 go_wp2_with fail
 refine (zm5 l L b c fr gv f2 ty w0 _ HW.out HB2.out HS2.out HN.out.2).mono ?_
 rintro e w3 ⟨hg3, ⟨hn3, rfl⟩ | ⟨f3, hn3, rfl, hs3⟩⟩
 . have HB3 := Hq (zj HB2.out hg3 HCB.out)
   have HN3 := Hq hn3
   clear hg3 hn3
   go_wp2_with fail
   exact ⟨rfl, HB3.out, Or.inl ⟨by simp [putO, HE.out, HMF.out, HN2.out, HN3.out], rfl⟩⟩
 have HN3 := Hq hn3
 have HS3 := Hq hs3
 have HB3 := Hq (zj HB2.out hg3 HCB.out)
 have HX3 := Hq (zac hg3 HX2.out hwc)
 clear hg3 hn3 hs3
 clear e0 e1 e3 el
 have e0 := HX3.out.cell 0
 have e1 := HX3.out.cell 1
 have e3 := HX3.out.cell 3
 have el := HX3.out.lt
 go_wp2_with fail
 refine (zeu (wl l) b c w0.heap.size fr gv f3 ty w0 _ HB3.out HB3.out.size HS3.out HN.out.1).mono ?_
 rintro e w4 ⟨hb4, ⟨hn4, rfl⟩ | ⟨f4, hn4, rfl, hs4⟩⟩
 . have HB4 := Hq (hb4)
   have HN4 := Hq hn4
   clear hb4 hn4
   go_wp2_with fail
   exact ⟨rfl, HB4.out, Or.inl ⟨by simp [putO, HE.out, HMF.out, HN2.out, HN3.out, HN4.out], rfl⟩⟩
 have HN4 := Hq hn4
 have HS4 := Hq hs4
 have HB4 := Hq hb4
 clear hb4 hn4 hs4
 clear e0 e1 e3 el
 go_wp2_with fail
 go_end0
 exact ⟨HB4.out, Or.inr ⟨_, by simp [putO, HE.out, HMF.out, HN2.out, HN3.out, HN4.out], rfl, HS4.out⟩⟩
theorem Stp.cell2 {L : List zd} {w : World} {B c b : Nat} {fr gv : Nm} {f : FrR} (h : Stp L w B c b fr gv f) : w.cell? ⟨c, 2, none⟩ = some (.string ⟨⟨gv⟩⟩) := by obtain ⟨_, _, _, _, h⟩ := h; exact h.blk.cell 2
theorem zvz (l : List zd) (L : List CP) (b c : Nat) (fr : Nm) (f : FrR) (ia ib : Int) (ty cl nm : Nm) (w0 w : World) (hW : WOk w0 b l L) (hb : Below w0.heap.size w0 w) (hs : Stp (wl l) w w0.heap.size c b fr [86] f) :
   Calls Tryz.prog 162 #[.pointer (some ⟨c, 0, none⟩), .agg #[.int .i64 (27), .int .i64 ia, .int .i64 ib, .string ⟨⟨ty⟩⟩, .string ⟨⟨cl⟩⟩, .string ⟨⟨nm⟩⟩]] w (zji (wl l) (za2 (wl l) [86] ⟨27, ia, ib, ty, cl, nm⟩ f) w0.heap.size c b fr [86] w0) := by
 obtain ⟨w1, hw1⟩ : ∃ w1, w1 = w.alloc (.cells #[.int .i64 27, .int .i64 ia, .int .i64 ib, .string ⟨⟨ty⟩⟩, .string ⟨⟨cl⟩⟩, .string ⟨⟨nm⟩⟩] 40) := ⟨_, rfl⟩
 have hal : Below w.heap.size w w1 := by rw [hw1]; exact ze (Below.refl _ _) _
 have HX1 := Hq (show Blk w1 w.heap.size 40 #[.int .i64 27, .int .i64 ia, .int .i64 ib, .string ⟨⟨ty⟩⟩, .string ⟨⟨cl⟩⟩, .string ⟨⟨nm⟩⟩] by rw [hw1]; exact zg _ _ _ _ rfl)
 have HG1 := Hq (zay (zp w c) hal)
 have HB1 := Hq (hb.trans (hal.mono hb.size))
 have HS1 := Hq (hs.below hal)
 have HW := Hq hW
 have HB := Hq hb
 have HCB := Hq hs.cB
 have hwc : w.heap.size ≠ c := by have := hs.lt; omega
 have HE := Hq (show za2 (wl l) [86] ⟨27, ia, ib, ty, cl, nm⟩ f = none by unfold za2; simp)
 have c2 := HS1.out.cell2
 have cl2 := HS1.out.lt
 have e0 := HX1.out.cell 0
 have el := HX1.out.lt
 clear hW hb hs hal 
 go_enter Tryz.func162, Tryz.ntmps162
 go_upto_region 1 with fail
 rw [<- hw1]
 clear hw1
 go_wp2_with fail
 refine (zdr _).mono ?_
 rintro e wn ⟨rfl, rfl⟩
 go_wp2_with fail
 exact ⟨rfl, HB1.out, Or.inl ⟨HE.out, rfl⟩⟩
theorem zwq (l : List zd) (L : List CP) (b c : Nat) (fr gv : Nm) (f : FrR) (ia ib : Int) (ty cl nm : Nm) (w0 w : World) (hW : WOk w0 b l L) (hb : Below w0.heap.size w0 w) (hs : Stp (wl l) w w0.heap.size c b fr gv f) (hg : gv ≠ [86]) (hgl : gv.length <= 8388608) :
   Calls Tryz.prog 162 #[.pointer (some ⟨c, 0, none⟩), .agg #[.int .i64 (27), .int .i64 ia, .int .i64 ib, .string ⟨⟨ty⟩⟩, .string ⟨⟨cl⟩⟩, .string ⟨⟨nm⟩⟩]] w (zji (wl l) (za2 (wl l) gv ⟨27, ia, ib, ty, cl, nm⟩ f) w0.heap.size c b fr gv w0) := by
 obtain ⟨w1, hw1⟩ : ∃ w1, w1 = w.alloc (.cells #[.int .i64 27, .int .i64 ia, .int .i64 ib, .string ⟨⟨ty⟩⟩, .string ⟨⟨cl⟩⟩, .string ⟨⟨nm⟩⟩] 40) := ⟨_, rfl⟩
 have hal : Below w.heap.size w w1 := by rw [hw1]; exact ze (Below.refl _ _) _
 have HX1 := Hq (show Blk w1 w.heap.size 40 #[.int .i64 27, .int .i64 ia, .int .i64 ib, .string ⟨⟨ty⟩⟩, .string ⟨⟨cl⟩⟩, .string ⟨⟨nm⟩⟩] by rw [hw1]; exact zg _ _ _ _ rfl)
 have HG1 := Hq (zay (zp w c) hal)
 have HB1 := Hq (hb.trans (hal.mono hb.size))
 have HS1 := Hq (hs.below hal)
 have HW := Hq hW
 have HB := Hq hb
 have HCB := Hq hs.cB
 have hwc : w.heap.size ≠ c := by have := hs.lt; omega
 have HE := Hq (show za2 (wl l) gv ⟨27, ia, ib, ty, cl, nm⟩ f = zbk (wl l) [gv] f by unfold za2; simp; intro h; exact absurd h hg)
 have q : (gv == [86]) = false := by rw [beq_eq_false_iff_ne]; exact hg
 have c2 := HS1.out.cell2
 have cl2 := HS1.out.lt
 have e0 := HX1.out.cell 0
 have el := HX1.out.lt
 clear hW hb hs hal hg
 go_enter Tryz.func162, Tryz.ntmps162
 go_upto_region 1 with fail
 rw [<- hw1]
 clear hw1
 go_wp2_with fail
 refine (zev _).mono ?_
 rintro e wn ⟨rfl, rfl⟩
 go_wp2_with fail
 refine (zm5 l L b c fr gv f gv w0 _ HW.out HB1.out HS1.out hgl).mono ?_
 rintro e w2 ⟨hg2, ⟨hn2, rfl⟩ | ⟨f2, hn2, rfl, hs2⟩⟩
 . have HB2 := Hq (zj HB1.out hg2 HCB.out)
   have HN2 := Hq hn2
   clear hg2 hn2
   go_wp2_with fail
   exact ⟨rfl, HB2.out, Or.inl ⟨by simp [putO, HE.out, HN2.out], rfl⟩⟩
 have HN2 := Hq hn2
 have HS2 := Hq hs2
 have HB2 := Hq (zj HB1.out hg2 HCB.out)
 have HX2 := Hq (zac hg2 HX1.out hwc)
 clear hg2 hn2 hs2
 clear e0 el
 have e0 := HX2.out.cell 0
 have el := HX2.out.lt
 go_wp2_with fail
 go_end0
 exact ⟨HB2.out, Or.inr ⟨_, by simp [putO, HE.out, HN2.out], rfl, HS2.out⟩⟩
theorem KOk.set {L : List zd} {f : FrR} (h : KOk L f) (m : Nat) {k : Nm} (hk : zh L k = 0) : KOk L ⟨f.loc.set m k, f.st⟩ :=
 ⟨by simpa using h.loc, h.st, fun t ht => by
   rcases List.mem_append.1 ht with ht | ht
   . rcases List.mem_or_eq_of_mem_set ht with ht | rfl
     . exact h.kn t (List.mem_append_left _ ht)
     . exact hk
   . exact h.kn t (List.mem_append_right _ ht)⟩
theorem z5j (l : List zd) (L : List CP) (b c : Nat) (fr gv : Nm) (f : FrR) (ib : Int) (ty cl nm : Nm) (w0 w : World) (hW : WOk w0 b l L) (hb : Below w0.heap.size w0 w) (hs : Stp (wl l) w w0.heap.size c b fr gv f) (m : Nat) :
   Calls Tryz.prog 162 #[.pointer (some ⟨c, 0, none⟩), .agg #[.int .i64 (4), .int .i64 ((m : Int)), .int .i64 ib, .string ⟨⟨ty⟩⟩, .string ⟨⟨cl⟩⟩, .string ⟨⟨nm⟩⟩]] w (zji (wl l) (za2 (wl l) gv ⟨4, (m : Int), ib, ty, cl, nm⟩ f) w0.heap.size c b fr gv w0) := by
 obtain ⟨w1, hw1⟩ : ∃ w1, w1 = w.alloc (.cells #[.int .i64 4, .int .i64 (m : Int), .int .i64 ib, .string ⟨⟨ty⟩⟩, .string ⟨⟨cl⟩⟩, .string ⟨⟨nm⟩⟩] 40) := ⟨_, rfl⟩
 have hal : Below w.heap.size w w1 := by rw [hw1]; exact ze (Below.refl _ _) _
 have HX1 := Hq (show Blk w1 w.heap.size 40 #[.int .i64 4, .int .i64 (m : Int), .int .i64 ib, .string ⟨⟨ty⟩⟩, .string ⟨⟨cl⟩⟩, .string ⟨⟨nm⟩⟩] by rw [hw1]; exact zg _ _ _ _ rfl)
 have HG1 := Hq (zay (zp w c) hal)
 have HB1 := Hq (hb.trans (hal.mono hb.size))
 have HS1 := Hq (hs.below hal)
 have HW := Hq hW
 have HB := Hq hb
 have HCB := Hq hs.cB
 have hwc : w.heap.size ≠ c := by have := hs.lt; omega
 have HE := Hq (show za2 (wl l) gv ⟨4, (m : Int), ib, ty, cl, nm⟩ f = (f.loc[m]?).elim none fun k => if k = [84] then none else zk7 f k by unfold za2; simp)
 have HS0 := Hq hs
 obtain ⟨la, lc, sa, sc, hst⟩ := HS1.out
 have c3 := hst.blk.cell 3
 have hcx := hst.blk.lt
 have hm0 : (0 : Int) <= (m : Int) := Int.natCast_nonneg _
 have HKO := Hq hst.kok
 by_cases hm : m < f.loc.length
 . obtain ⟨k, hk⟩ : ∃ k, f.loc[m]? = some k := ⟨_, List.getElem?_eq_getElem hm⟩
   obtain ⟨g, hga, hgl, hgB, hgc, _, hcap⟩ := zgo hst.lo (j := m) (u := zz k) (by rw [List.getElem?_map, hk]; rfl)
   rw [hga] at c3
   have hmi : (m : Int) < (f.loc.length : Int) := by omega
   have hgc2 : w1.cell? ⟨g, m, none⟩ = some (.string ⟨⟨k⟩⟩) := hgc
   have HL := Hq hk
   have HKK := Hq (HKO.out.kn k (List.mem_append_left _ (List.mem_of_getElem? hk)))
   clear hgc hk hga
   by_cases hk84 : k = [84]
   . subst hk84
     clear hst
     have e0 := HX1.out.cell 0
     have e1 := HX1.out.cell 1
     have el := HX1.out.lt
     have HSC := Hq (And.intro e1 (And.intro c3 hgc2))
     clear hW hb hs hal
     go_enter Tryz.func162, Tryz.ntmps162
     go_upto_region 1 with fail
     rw [<- hw1]
     clear hw1
     go_upto_region 7 with fail
     refine Code.wp_mono (Q := z8i c w1) ?_ ?_
     . rintro e a' w' ⟨rfl, hd', hg'⟩
       go_wp2_with fail
       exact ⟨hd', zj HB1.out hg' HCB.out, Or.inl ⟨by simp [HE.out, HL.out], rfl⟩⟩
     refine wp_region_held_drew (S := fun W' => W'.cell? ⟨w.heap.size, 1, none⟩ = some (.int .i64 (m : Int)) /\ W'.cell? ⟨c, 3, none⟩ = some (.slice (some ⟨g, 0, none⟩) f.loc.length lc) /\ W'.cell? ⟨g, m, none⟩ = some (.string ⟨⟨[84]⟩⟩)) (by kernel_rfl) ?_ (fun hHeld => ?_)
     . exact HSC.out
     refine wpAnyH_take (i := 0) (oi := { dst := some 22, op := Op.fieldAddr 40 (Operand.tmp 3) 1, type := 0, pos := "frame.go:168", after := #[], guard := none }) (v := ?_) rfl (by kernel_rfl) (by kernel_rfl) (by kernel_rfl) (fun _ _ _ h => h) (Or.inl ⟨by rfl, ?_⟩) (by assumption) ?_
     rotate_left
     . (intro w hSw; (try dsimp only at hSw); go_simp; try with_reducible rfl)
     refine wpAnyH_take (i := 1) (oi := { dst := some 23, op := Op.load 3 (Operand.tmp 22), type := 3, pos := "frame.go:168", after := #[{ on := 0, ground := Ground.data }], guard := none }) (v := ?_) rfl (by kernel_rfl) (by kernel_rfl) (by kernel_rfl) (fun _ _ _ h => h) (Or.inl ⟨by rfl, ?_⟩) (by assumption) ?_
     rotate_left
     . (intro w hSw; (try dsimp only at hSw); go_simp; try with_reducible rfl)
     try simp only [Act.put, List.setIfInBounds_toArray, List.set_cons_zero, List.set_cons_succ]
     refine wpAnyH_take (i := 2) (oi := { dst := some 24, op := Op.move (Operand.tmp 0), type := 218, pos := "frame.go:168", after := #[], guard := none }) (v := ?_) rfl (by kernel_rfl) (by kernel_rfl) (by kernel_rfl) (fun _ _ _ h => h) (Or.inl ⟨by rfl, ?_⟩) (by assumption) ?_
     rotate_left
     . (intro w hSw; (try dsimp only at hSw); go_simp; try with_reducible rfl)
     refine wpAnyH_take (i := 3) (oi := { dst := some 25, op := Op.nilCheck (Operand.tmp 24), type := 0, pos := "frame.go:168", after := #[{ on := 2, ground := Ground.data }], guard := none }) (v := ?_) rfl (by kernel_rfl) (by kernel_rfl) (by kernel_rfl) (fun _ _ _ h => h) (Or.inl ⟨by rfl, ?_⟩) (by assumption) ?_
     rotate_left
     . (intro w hSw; (try dsimp only at hSw); go_simp; try with_reducible rfl)
     refine wpAnyH_take (i := 4) (oi := { dst := some 26, op := Op.fieldAddr 221 (Operand.tmp 25) 3, type := 0, pos := "frame.go:168", after := #[{ on := 3, ground := Ground.data }], guard := none }) (v := ?_) rfl (by kernel_rfl) (by kernel_rfl) (by kernel_rfl) (fun _ _ _ h => h) (Or.inl ⟨by rfl, ?_⟩) (by assumption) ?_
     rotate_left
     . (intro w hSw; (try dsimp only at hSw); go_simp; try with_reducible rfl)
     try simp only [Act.put, List.setIfInBounds_toArray, List.set_cons_zero, List.set_cons_succ]
     refine wpAnyH_take (i := 5) (oi := { dst := some 27, op := Op.fieldAddr 141 (Operand.tmp 26) 0, type := 0, pos := "frame.go:168", after := #[{ on := 4, ground := Ground.data }], guard := none }) (v := ?_) rfl (by kernel_rfl) (by kernel_rfl) (by kernel_rfl) (fun _ _ _ h => h) (Or.inl ⟨by rfl, ?_⟩) (by assumption) ?_
     rotate_left
     . (intro w hSw; (try dsimp only at hSw); go_simp; try with_reducible rfl)
     refine wpAnyH_take (i := 6) (oi := { dst := some 28, op := Op.load 35 (Operand.tmp 27), type := 35, pos := "frame.go:168", after := #[{ on := 5, ground := Ground.data }], guard := none }) (v := ?_) rfl (by kernel_rfl) (by kernel_rfl) (by kernel_rfl) (fun _ _ _ h => h) (Or.inl ⟨by rfl, ?_⟩) (by assumption) ?_
     rotate_left
     . (intro w hSw; (try dsimp only at hSw); go_simp; try with_reducible rfl)
     refine wpAnyH_take (i := 7) (oi := { dst := some 29, op := Op.call { callee := Callee.builtin Builtin.len, args := #[Operand.tmp 28], argTypes := #[35] }, type := 3, pos := "frame.go:168", after := #[{ on := 6, ground := Ground.data }], guard := none }) (v := ?_) rfl (by kernel_rfl) (by kernel_rfl) (by kernel_rfl) (fun _ _ _ h => h) (Or.inl ⟨by rfl, ?_⟩) (by assumption) ?_
     rotate_left
     . (intro w hSw; (try dsimp only at hSw); go_simp; try with_reducible rfl)
     try simp only [Act.put, List.setIfInBounds_toArray, List.set_cons_zero, List.set_cons_succ]
     refine wpAnyH_take (i := 8) (oi := { dst := some 30, op := Op.binOp BinOp.lss 3 (Operand.tmp 23) (Operand.tmp 29) 3, type := 4, pos := "frame.go:168", after := #[{ on := 1, ground := Ground.data }, { on := 7, ground := Ground.data }], guard := none }) (v := ?_) rfl (by kernel_rfl) (by kernel_rfl) (by kernel_rfl) (fun _ _ _ h => h) (Or.inl ⟨by rfl, ?_⟩) (by assumption) ?_
     rotate_left
     . (intro w hSw; (try dsimp only at hSw); go_simp; try with_reducible rfl)
     refine wpAnyH_take (i := 9) (oi := { dst := some 31, op := Op.move (Operand.tmp 30), type := 4, pos := "frame.go:168", after := #[{ on := 8, ground := Ground.data }], guard := none }) (v := ?_) rfl (by kernel_rfl) (by kernel_rfl) (by kernel_rfl) (fun _ _ _ h => h) (Or.inl ⟨by rfl, ?_⟩) (by assumption) ?_
     rotate_left
     . (intro w hSw; (try dsimp only at hSw); go_simp; try with_reducible rfl)
     refine wpAnyH_take (i := 10) (oi := { dst := some 32, op := Op.move (Operand.tmp 0), type := 218, pos := "frame.go:168", after := #[{ on := 9, ground := Ground.guard }], guard := some (9, true) }) (v := ?_) rfl (by kernel_rfl) (by kernel_rfl) (by kernel_rfl) (fun _ _ _ h => h) (Or.inl ⟨by rfl, ?_⟩) (by assumption) ?_
     rotate_left
     . (intro w hSw; (try dsimp only at hSw); go_simp; try with_reducible rfl)
     try simp only [Act.put, List.setIfInBounds_toArray, List.set_cons_zero, List.set_cons_succ]
     refine wpAnyH_take (i := 11) (oi := { dst := some 33, op := Op.nilCheck (Operand.tmp 32), type := 0, pos := "frame.go:168", after := #[{ on := 10, ground := Ground.data }, { on := 9, ground := Ground.guard }], guard := some (9, true) }) (v := ?_) rfl (by kernel_rfl) (by kernel_rfl) (by kernel_rfl) (fun _ _ _ h => h) (Or.inl ⟨by rfl, ?_⟩) (by assumption) ?_
     rotate_left
     . (intro w hSw; (try dsimp only at hSw); go_simp; try with_reducible rfl)
     refine wpAnyH_take (i := 12) (oi := { dst := some 34, op := Op.fieldAddr 221 (Operand.tmp 33) 3, type := 0, pos := "frame.go:168", after := #[{ on := 11, ground := Ground.data }, { on := 9, ground := Ground.guard }], guard := some (9, true) }) (v := ?_) rfl (by kernel_rfl) (by kernel_rfl) (by kernel_rfl) (fun _ _ _ h => h) (Or.inl ⟨by rfl, ?_⟩) (by assumption) ?_
     rotate_left
     . (intro w hSw; (try dsimp only at hSw); go_simp; try with_reducible rfl)
     refine wpAnyH_take (i := 13) (oi := { dst := some 35, op := Op.fieldAddr 141 (Operand.tmp 34) 0, type := 0, pos := "frame.go:168", after := #[{ on := 12, ground := Ground.data }, { on := 9, ground := Ground.guard }], guard := some (9, true) }) (v := ?_) rfl (by kernel_rfl) (by kernel_rfl) (by kernel_rfl) (fun _ _ _ h => h) (Or.inl ⟨by rfl, ?_⟩) (by assumption) ?_
     rotate_left
     . (intro w hSw; (try dsimp only at hSw); go_simp; try with_reducible rfl)
     try simp only [Act.put, List.setIfInBounds_toArray, List.set_cons_zero, List.set_cons_succ]
     refine wpAnyH_take (i := 14) (oi := { dst := some 36, op := Op.load 35 (Operand.tmp 35), type := 35, pos := "frame.go:168", after := #[{ on := 13, ground := Ground.data }, { on := 9, ground := Ground.guard }], guard := some (9, true) }) (v := ?_) rfl (by kernel_rfl) (by kernel_rfl) (by kernel_rfl) (fun _ _ _ h => h) (Or.inl ⟨by rfl, ?_⟩) (by assumption) ?_
     rotate_left
     . (intro w hSw; (try dsimp only at hSw); go_simp; try with_reducible rfl)
     refine wpAnyH_take (i := 15) (oi := { dst := some 37, op := Op.fieldAddr 40 (Operand.tmp 3) 1, type := 0, pos := "frame.go:168", after := #[{ on := 9, ground := Ground.guard }], guard := some (9, true) }) (v := ?_) rfl (by kernel_rfl) (by kernel_rfl) (by kernel_rfl) (fun _ _ _ h => h) (Or.inl ⟨by rfl, ?_⟩) (by assumption) ?_
     rotate_left
     . (intro w hSw; (try dsimp only at hSw); go_simp; try with_reducible rfl)
     refine wpAnyH_take (i := 16) (oi := { dst := some 38, op := Op.load 3 (Operand.tmp 37), type := 3, pos := "frame.go:168", after := #[{ on := 15, ground := Ground.data }, { on := 9, ground := Ground.guard }], guard := some (9, true) }) (v := ?_) rfl (by kernel_rfl) (by kernel_rfl) (by kernel_rfl) (fun _ _ _ h => h) (Or.inl ⟨by rfl, ?_⟩) (by assumption) ?_
     rotate_left
     . (intro w hSw; (try dsimp only at hSw); go_simp; try with_reducible rfl)
     try simp only [Act.put, List.setIfInBounds_toArray, List.set_cons_zero, List.set_cons_succ]
     refine wpAnyH_take (i := 17) (oi := { dst := some 39, op := Op.indexAddr 35 (Operand.tmp 36) (Operand.tmp 38), type := 0, pos := "frame.go:168", after := #[{ on := 14, ground := Ground.data }, { on := 16, ground := Ground.data }, { on := 9, ground := Ground.guard }], guard := some (9, true) }) (v := ?_) rfl (by kernel_rfl) (by kernel_rfl) (by kernel_rfl) (fun _ _ _ h => h) (Or.inl ⟨by rfl, ?_⟩) (by assumption) ?_
     rotate_left
     . (intro w hSw; (try dsimp only at hSw); go_simp; try with_reducible rfl)
     refine wpAnyH_take (i := 18) (oi := { dst := some 40, op := Op.load 9 (Operand.tmp 39), type := 9, pos := "frame.go:168", after := #[{ on := 17, ground := Ground.data }, { on := 9, ground := Ground.guard }], guard := some (9, true) }) (v := ?_) rfl (by kernel_rfl) (by kernel_rfl) (by kernel_rfl) (fun _ _ _ h => h) (Or.inl ⟨by rfl, ?_⟩) (by assumption) ?_
     rotate_left
     . (intro w hSw; (try dsimp only at hSw); go_simp; try with_reducible rfl)
     refine wpAnyH_take (i := 19) (oi := { dst := some 41, op := Op.binOp BinOp.neq 9 (Operand.tmp 40) (Operand.const (Value.string { data := #[84] })) 9, type := 4, pos := "frame.go:168", after := #[{ on := 18, ground := Ground.data }, { on := 9, ground := Ground.guard }], guard := some (9, true) }) (v := ?_) rfl (by kernel_rfl) (by kernel_rfl) (by kernel_rfl) (fun _ _ _ h => h) (Or.inl ⟨by rfl, ?_⟩) (by assumption) ?_
     rotate_left
     . (intro w hSw; (try dsimp only at hSw); go_simp; try with_reducible rfl)
     try simp only [Act.put, List.setIfInBounds_toArray, List.set_cons_zero, List.set_cons_succ]
     refine wpAnyH_take (i := 20) (oi := { dst := some 42, op := Op.pick (Operand.tmp 31) (Operand.tmp 41) (Operand.const (Value.bool false)), type := 4, pos := "frame.go:168", after := #[{ on := 9, ground := Ground.data }, { on := 19, ground := Ground.data }], guard := none }) (v := ?_) rfl (by kernel_rfl) (by kernel_rfl) (by kernel_rfl) (fun _ _ _ h => h) (Or.inl ⟨by rfl, ?_⟩) (by assumption) ?_
     rotate_left
     . (intro w hSw; (try dsimp only at hSw); go_simp; try with_reducible rfl)
     try simp only [Act.put, List.setIfInBounds_toArray, List.set_cons_zero, List.set_cons_succ]
     refine wpAnyH_ready (rs := [21]) (by kernel_rfl) (by simp) ?_
     refine AllReadyH.cons (o := { dst := some 43, op := Op.call { callee := Callee.value (Operand.func 188), args := #[Operand.tmp 42], argTypes := #[4] }, type := 0, pos := "frame.go:168", after := #[{ on := 20, ground := Ground.data }, { on := 9, ground := Ground.chain }], guard := none }) rfl (fun K hK => ?_) AllReadyH.nil
     go_simp
     go_wp2_with ((go_at_call 188; refine (zdr _).mono ?_; rintro e w5 ⟨rfl, rfl⟩))
     exact ⟨rfl, rfl, zb9 (zp w1 c)⟩
   . have q84 : (k == [84]) = false := by rw [beq_eq_false_iff_ne]; exact hk84
     have HE2 := Hq (show za2 (wl l) gv ⟨4, (m : Int), ib, ty, cl, nm⟩ f = zk7 f k by rw [HE.out, HL.out]; simp only [Option.elim_some]; rw [if_neg hk84])
     clear hk84
     clear hst
     have e0 := HX1.out.cell 0
     have e1 := HX1.out.cell 1
     have el := HX1.out.lt
     have HSC := Hq (And.intro e1 (And.intro c3 hgc2))
     clear hW hb hs hal
     go_enter Tryz.func162, Tryz.ntmps162
     go_upto_region 1 with fail
     rw [<- hw1]
     clear hw1
     go_upto_region 7 with fail
     have HG := Hq (fun (d : Nat) (os : Array Obj) => below_regrown w1 d os)
     have g1 := fun (d : Nat) (os : Array Obj) => (show (grow (redrawn w1 d) os).cell? ⟨w.heap.size, 1, none⟩ = some (.int .i64 (m : Int)) from (HX1.out.below (HG.out d os)).cell 1)
     have g3 := fun (d : Nat) (os : Array Obj) => (show (grow (redrawn w1 d) os).cell? ⟨c, 3, none⟩ = some (.slice (some ⟨g, 0, none⟩) f.loc.length lc) from (World.cell?_of_block ((HG.out d os).block c hcx)).trans c3)
     have g4 := fun (d : Nat) (os : Array Obj) => (show (grow (redrawn w1 d) os).cell? ⟨g, m, none⟩ = some (.string ⟨⟨k⟩⟩) from (World.cell?_of_block ((HG.out d os).block g hgl)).trans hgc2)
     refine wp_region_quiet_below (by kernel_rfl) (by kernel_rfl) ?_
     repeat (first | go_big_quiet_step (with_reducible exact Calls.regrown_of ((zev _).mono fun e w h => ⟨h.1, by rw [h.2]; exact Below.refl _ _⟩)) | quiet_step (with_reducible exact Calls.regrown_of ((zev _).mono fun e w h => ⟨h.1, by rw [h.2]; exact Below.refl _ _⟩)))
     refine wpQuiet_nil ?_
     intro _ hw'
     obtain ⟨⟨dq, osq⟩, hw''⟩ := hw'
     subst hw''
     have HBQ := Hq (HB1.out.trans ((HG.out dq osq).mono HB1.out.size))
     have HSQ := Hq (HS1.out.below (HG.out dq osq))
     have y1 := g1 dq osq
     have y3 := g3 dq osq
     have y4 := g4 dq osq
     clear g1 g3 g4 c3 hgc2 e1
     go_wp2_with fail
     refine z42 10 (by kernel_rfl) (by kernel_rfl) ?_
     simp only [List.take_succ_cons, List.take_zero, List.drop_succ_cons, List.drop_zero]
     repeat still_step
     refine wpStill_nil ?_
     go_wp2_with fail
     refine (zeu (wl l) b c w0.heap.size fr gv f k w0 _ HBQ.out.drew HBQ.out.drew.size (HSQ.out.below (Below.refl _ _).drew) HKK.out).mono ?_
     rintro e w2 ⟨hb2, ⟨hn2, rfl⟩ | ⟨f2, hn2, rfl, hs2⟩⟩
     . have HB2 := Hq hb2
       have HN2 := Hq hn2
       clear hb2 hn2
       go_wp2_with fail
       exact ⟨rfl, HB2.out, Or.inl ⟨by rw [HE2.out, HN2.out], rfl⟩⟩
     . have HB2 := Hq hb2
       have HN2 := Hq hn2
       have HS2 := Hq hs2
       clear hb2 hn2 hs2
       go_wp2_with fail
       go_end0
       exact ⟨HB2.out, Or.inr ⟨f2, by rw [HE2.out, HN2.out], rfl, HS2.out⟩⟩
 . have hmi : ¬ (m : Int) < (f.loc.length : Int) := by omega
   have hmd : decide ((m : Int) < (f.loc.length : Int)) = false := decide_eq_false hmi
   have HL := Hq (show f.loc[m]? = none from List.getElem?_eq_none_iff.2 (by omega))
   clear hst
   have e0 := HX1.out.cell 0
   have e1 := HX1.out.cell 1
   have el := HX1.out.lt
   have HSC := Hq (And.intro e1 c3)
   clear hW hb hs hal
   go_enter Tryz.func162, Tryz.ntmps162
   go_upto_region 1 with fail
   rw [<- hw1]
   clear hw1
   go_upto_region 7 with fail
   refine Code.wp_mono (Q := z8i c w1) ?_ ?_
   . rintro e a' w' ⟨rfl, hd', hg'⟩
     go_wp2_with fail
     exact ⟨hd', zj HB1.out hg' HCB.out, Or.inl ⟨by simp [HE.out, HL.out], rfl⟩⟩
   refine wp_region_held_drew (S := fun W' => W'.cell? ⟨w.heap.size, 1, none⟩ = some (.int .i64 (m : Int)) /\ W'.cell? ⟨c, 3, none⟩ = some (.slice la f.loc.length lc)) (by kernel_rfl) ?_ (fun hHeld => ?_)
   . exact HSC.out
   refine wpAnyH_take (i := 0) (oi := { dst := some 22, op := Op.fieldAddr 40 (Operand.tmp 3) 1, type := 0, pos := "frame.go:168", after := #[], guard := none }) (v := ?_) rfl (by kernel_rfl) (by kernel_rfl) (by kernel_rfl) (fun _ _ _ h => h) (Or.inl ⟨by rfl, ?_⟩) (by assumption) ?_
   rotate_left
   . (intro w hSw; (try dsimp only at hSw); go_simp; try with_reducible rfl)
   refine wpAnyH_take (i := 1) (oi := { dst := some 23, op := Op.load 3 (Operand.tmp 22), type := 3, pos := "frame.go:168", after := #[{ on := 0, ground := Ground.data }], guard := none }) (v := ?_) rfl (by kernel_rfl) (by kernel_rfl) (by kernel_rfl) (fun _ _ _ h => h) (Or.inl ⟨by rfl, ?_⟩) (by assumption) ?_
   rotate_left
   . (intro w hSw; (try dsimp only at hSw); go_simp; try with_reducible rfl)
   try simp only [Act.put, List.setIfInBounds_toArray, List.set_cons_zero, List.set_cons_succ]
   refine wpAnyH_take (i := 2) (oi := { dst := some 24, op := Op.move (Operand.tmp 0), type := 218, pos := "frame.go:168", after := #[], guard := none }) (v := ?_) rfl (by kernel_rfl) (by kernel_rfl) (by kernel_rfl) (fun _ _ _ h => h) (Or.inl ⟨by rfl, ?_⟩) (by assumption) ?_
   rotate_left
   . (intro w hSw; (try dsimp only at hSw); go_simp; try with_reducible rfl)
   refine wpAnyH_take (i := 3) (oi := { dst := some 25, op := Op.nilCheck (Operand.tmp 24), type := 0, pos := "frame.go:168", after := #[{ on := 2, ground := Ground.data }], guard := none }) (v := ?_) rfl (by kernel_rfl) (by kernel_rfl) (by kernel_rfl) (fun _ _ _ h => h) (Or.inl ⟨by rfl, ?_⟩) (by assumption) ?_
   rotate_left
   . (intro w hSw; (try dsimp only at hSw); go_simp; try with_reducible rfl)
   refine wpAnyH_take (i := 4) (oi := { dst := some 26, op := Op.fieldAddr 221 (Operand.tmp 25) 3, type := 0, pos := "frame.go:168", after := #[{ on := 3, ground := Ground.data }], guard := none }) (v := ?_) rfl (by kernel_rfl) (by kernel_rfl) (by kernel_rfl) (fun _ _ _ h => h) (Or.inl ⟨by rfl, ?_⟩) (by assumption) ?_
   rotate_left
   . (intro w hSw; (try dsimp only at hSw); go_simp; try with_reducible rfl)
   try simp only [Act.put, List.setIfInBounds_toArray, List.set_cons_zero, List.set_cons_succ]
   refine wpAnyH_take (i := 5) (oi := { dst := some 27, op := Op.fieldAddr 141 (Operand.tmp 26) 0, type := 0, pos := "frame.go:168", after := #[{ on := 4, ground := Ground.data }], guard := none }) (v := ?_) rfl (by kernel_rfl) (by kernel_rfl) (by kernel_rfl) (fun _ _ _ h => h) (Or.inl ⟨by rfl, ?_⟩) (by assumption) ?_
   rotate_left
   . (intro w hSw; (try dsimp only at hSw); go_simp; try with_reducible rfl)
   refine wpAnyH_take (i := 6) (oi := { dst := some 28, op := Op.load 35 (Operand.tmp 27), type := 35, pos := "frame.go:168", after := #[{ on := 5, ground := Ground.data }], guard := none }) (v := ?_) rfl (by kernel_rfl) (by kernel_rfl) (by kernel_rfl) (fun _ _ _ h => h) (Or.inl ⟨by rfl, ?_⟩) (by assumption) ?_
   rotate_left
   . (intro w hSw; (try dsimp only at hSw); go_simp; try with_reducible rfl)
   refine wpAnyH_take (i := 7) (oi := { dst := some 29, op := Op.call { callee := Callee.builtin Builtin.len, args := #[Operand.tmp 28], argTypes := #[35] }, type := 3, pos := "frame.go:168", after := #[{ on := 6, ground := Ground.data }], guard := none }) (v := ?_) rfl (by kernel_rfl) (by kernel_rfl) (by kernel_rfl) (fun _ _ _ h => h) (Or.inl ⟨by rfl, ?_⟩) (by assumption) ?_
   rotate_left
   . (intro w hSw; (try dsimp only at hSw); go_simp; try with_reducible rfl)
   try simp only [Act.put, List.setIfInBounds_toArray, List.set_cons_zero, List.set_cons_succ]
   refine wpAnyH_take (i := 8) (oi := { dst := some 30, op := Op.binOp BinOp.lss 3 (Operand.tmp 23) (Operand.tmp 29) 3, type := 4, pos := "frame.go:168", after := #[{ on := 1, ground := Ground.data }, { on := 7, ground := Ground.data }], guard := none }) (v := ?_) rfl (by kernel_rfl) (by kernel_rfl) (by kernel_rfl) (fun _ _ _ h => h) (Or.inl ⟨by rfl, ?_⟩) (by assumption) ?_
   rotate_left
   . (intro w hSw; (try dsimp only at hSw); go_simp; try with_reducible rfl)
   refine wpAnyH_take (i := 9) (oi := { dst := some 31, op := Op.move (Operand.tmp 30), type := 4, pos := "frame.go:168", after := #[{ on := 8, ground := Ground.data }], guard := none }) (v := ?_) rfl (by kernel_rfl) (by kernel_rfl) (by kernel_rfl) (fun _ _ _ h => h) (Or.inl ⟨by rfl, ?_⟩) (by assumption) ?_
   rotate_left
   . (intro w hSw; (try dsimp only at hSw); go_simp; try with_reducible rfl)
   refine wpAnyH_take (i := 10) (oi := { dst := some 32, op := Op.move (Operand.tmp 0), type := 218, pos := "frame.go:168", after := #[{ on := 9, ground := Ground.guard }], guard := some (9, true) }) (v := undef) rfl (by kernel_rfl) (by kernel_rfl) (by kernel_rfl) (fun _ _ _ h => h) (Or.inr ⟨by rfl, rfl⟩) (by assumption) ?_
   try simp only [Act.put, List.setIfInBounds_toArray, List.set_cons_zero, List.set_cons_succ]
   refine wpAnyH_take (i := 11) (oi := { dst := some 33, op := Op.nilCheck (Operand.tmp 32), type := 0, pos := "frame.go:168", after := #[{ on := 10, ground := Ground.data }, { on := 9, ground := Ground.guard }], guard := some (9, true) }) (v := undef) rfl (by kernel_rfl) (by kernel_rfl) (by kernel_rfl) (fun _ _ _ h => h) (Or.inr ⟨by rfl, rfl⟩) (by assumption) ?_
   refine wpAnyH_take (i := 12) (oi := { dst := some 34, op := Op.fieldAddr 221 (Operand.tmp 33) 3, type := 0, pos := "frame.go:168", after := #[{ on := 11, ground := Ground.data }, { on := 9, ground := Ground.guard }], guard := some (9, true) }) (v := undef) rfl (by kernel_rfl) (by kernel_rfl) (by kernel_rfl) (fun _ _ _ h => h) (Or.inr ⟨by rfl, rfl⟩) (by assumption) ?_
   refine wpAnyH_take (i := 13) (oi := { dst := some 35, op := Op.fieldAddr 141 (Operand.tmp 34) 0, type := 0, pos := "frame.go:168", after := #[{ on := 12, ground := Ground.data }, { on := 9, ground := Ground.guard }], guard := some (9, true) }) (v := undef) rfl (by kernel_rfl) (by kernel_rfl) (by kernel_rfl) (fun _ _ _ h => h) (Or.inr ⟨by rfl, rfl⟩) (by assumption) ?_
   try simp only [Act.put, List.setIfInBounds_toArray, List.set_cons_zero, List.set_cons_succ]
   refine wpAnyH_take (i := 14) (oi := { dst := some 36, op := Op.load 35 (Operand.tmp 35), type := 35, pos := "frame.go:168", after := #[{ on := 13, ground := Ground.data }, { on := 9, ground := Ground.guard }], guard := some (9, true) }) (v := undef) rfl (by kernel_rfl) (by kernel_rfl) (by kernel_rfl) (fun _ _ _ h => h) (Or.inr ⟨by rfl, rfl⟩) (by assumption) ?_
   refine wpAnyH_take (i := 15) (oi := { dst := some 37, op := Op.fieldAddr 40 (Operand.tmp 3) 1, type := 0, pos := "frame.go:168", after := #[{ on := 9, ground := Ground.guard }], guard := some (9, true) }) (v := undef) rfl (by kernel_rfl) (by kernel_rfl) (by kernel_rfl) (fun _ _ _ h => h) (Or.inr ⟨by rfl, rfl⟩) (by assumption) ?_
   refine wpAnyH_take (i := 16) (oi := { dst := some 38, op := Op.load 3 (Operand.tmp 37), type := 3, pos := "frame.go:168", after := #[{ on := 15, ground := Ground.data }, { on := 9, ground := Ground.guard }], guard := some (9, true) }) (v := undef) rfl (by kernel_rfl) (by kernel_rfl) (by kernel_rfl) (fun _ _ _ h => h) (Or.inr ⟨by rfl, rfl⟩) (by assumption) ?_
   try simp only [Act.put, List.setIfInBounds_toArray, List.set_cons_zero, List.set_cons_succ]
   refine wpAnyH_take (i := 17) (oi := { dst := some 39, op := Op.indexAddr 35 (Operand.tmp 36) (Operand.tmp 38), type := 0, pos := "frame.go:168", after := #[{ on := 14, ground := Ground.data }, { on := 16, ground := Ground.data }, { on := 9, ground := Ground.guard }], guard := some (9, true) }) (v := undef) rfl (by kernel_rfl) (by kernel_rfl) (by kernel_rfl) (fun _ _ _ h => h) (Or.inr ⟨by rfl, rfl⟩) (by assumption) ?_
   refine wpAnyH_take (i := 18) (oi := { dst := some 40, op := Op.load 9 (Operand.tmp 39), type := 9, pos := "frame.go:168", after := #[{ on := 17, ground := Ground.data }, { on := 9, ground := Ground.guard }], guard := some (9, true) }) (v := undef) rfl (by kernel_rfl) (by kernel_rfl) (by kernel_rfl) (fun _ _ _ h => h) (Or.inr ⟨by rfl, rfl⟩) (by assumption) ?_
   refine wpAnyH_take (i := 19) (oi := { dst := some 41, op := Op.binOp BinOp.neq 9 (Operand.tmp 40) (Operand.const (Value.string { data := #[84] })) 9, type := 4, pos := "frame.go:168", after := #[{ on := 18, ground := Ground.data }, { on := 9, ground := Ground.guard }], guard := some (9, true) }) (v := undef) rfl (by kernel_rfl) (by kernel_rfl) (by kernel_rfl) (fun _ _ _ h => h) (Or.inr ⟨by rfl, rfl⟩) (by assumption) ?_
   try simp only [Act.put, List.setIfInBounds_toArray, List.set_cons_zero, List.set_cons_succ]
   refine wpAnyH_take (i := 20) (oi := { dst := some 42, op := Op.pick (Operand.tmp 31) (Operand.tmp 41) (Operand.const (Value.bool false)), type := 4, pos := "frame.go:168", after := #[{ on := 9, ground := Ground.data }, { on := 19, ground := Ground.data }], guard := none }) (v := ?_) rfl (by kernel_rfl) (by kernel_rfl) (by kernel_rfl) (fun _ _ _ h => h) (Or.inl ⟨by rfl, ?_⟩) (by assumption) ?_
   rotate_left
   . (intro w hSw; (try dsimp only at hSw); go_simp; try with_reducible rfl)
   try simp only [Act.put, List.setIfInBounds_toArray, List.set_cons_zero, List.set_cons_succ]
   refine wpAnyH_ready (rs := [21]) (by kernel_rfl) (by simp) ?_
   refine AllReadyH.cons (o := { dst := some 43, op := Op.call { callee := Callee.value (Operand.func 188), args := #[Operand.tmp 42], argTypes := #[4] }, type := 0, pos := "frame.go:168", after := #[{ on := 20, ground := Ground.data }, { on := 9, ground := Ground.chain }], guard := none }) rfl (fun K hK => ?_) AllReadyH.nil
   go_simp
   go_wp2_with ((go_at_call 188; refine (zdr _).mono ?_; rintro e w5 ⟨rfl, rfl⟩))
   exact ⟨rfl, rfl, zb9 (zp w1 c)⟩
end Go.Proofs.YtbnkckjdgpiggaaGreatDoor
