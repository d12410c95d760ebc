import Derived.Test.YtddbnboicmaooaaGreatDoorRe2
namespace Go.Proofs.YtddbnboicmaooaaGreatDoor
set_option maxRecDepth 100000
set_option maxHeartbeats 16000000
set_option linter.unusedVariables false
set_option linter.unusedSimpArgs false
open Go.RowKit Go.Shelf Go.Lib
theorem rins8 (ia ib : Int) (ty cl nm : List UInt8) (hty : ty.length ≤ 8388608) (w : World) : Calls Tryz.prog 224 #[insV ⟨8, ia, ib, ty, cl, nm⟩] w (SomeE w) := by
 have HJ := Hd (fun W => rjumps_calls 8 W)
 have HW := Hd (fun W => rword32_calls ia W)
 have HT := Hd (fun (ja jb : Int) (ty2 cl2 nm2 : List UInt8) (h2 : ty2.length ≤ 8388608) W => show Calls Tryz.prog 252 #[.agg #[.int .i64 8, .int .i64 ja, .int .i64 jb, .string ⟨⟨ty2⟩⟩, .string ⟨⟨cl2⟩⟩, .string ⟨⟨nm2⟩⟩]] W (SomeB W) from rtypeMay_calls ⟨8, ja, jb, ty2, cl2, nm2⟩ h2 W)
 have HTY := Hd hty
 have HC := Hd (fun W => rname_calls cl W)
 have HN := Hd (fun W => rname_calls nm W)
 obtain ⟨w1, hw1⟩ : ∃ w1, w1 = w.alloc (.cells (insArr ⟨8, ia, ib, ty, cl, nm⟩) 40) := ⟨_, rfl⟩
 have HX := Hd (show Blk w1 w.heap.size 40 (insArr ⟨8, ia, ib, ty, cl, nm⟩) by rw [hw1]; exact blk_new _ _ _ _ rfl)
 have HB1 := Hd (show Below w.heap.size w w1 by rw [hw1]; exact bl_alloc (Below.refl _ _) _)
 unfold insArr at hw1 HX
 unfold insV
 clear hty
 go_enter Tryz.func224, Tryz.ntmps224
 go_upto_region 1 with fail
 rw [← hw1]
 clear hw1
 have e0 := HX.out.cell 0
 have e6 := HX.out.lt
 go_wp2_with fail
 refine (rneeds8 _).mono ?_
 rintro e w2 ⟨rfl, hb2⟩
 obtain ⟨w3, hw3⟩ : ∃ w3, w3 = w2.alloc (.cells #[.bool false, .bool false, .bool false, .bool false, .bool false] 306) := ⟨_, rfl⟩
 have hb3 : Below w2.heap.size w2 w3 := by rw [hw3]; exact bl_alloc (Below.refl _ _) _
 have HA := Hd (show Blk w3 w2.heap.size 306 #[.bool false, .bool false, .bool false, .bool false, .bool false] by rw [hw3]; exact blk_new _ _ _ _ rfl)
 have HB3 := Hd (bl_trans HB1.out (bl_trans hb2 hb3))
 have HX3 := Hd (HX.out.below (bl_trans hb2 hb3))
 clear hb2 e0 e6 hb3
 go_upto_region 4 with fail
 rw [← hw3]
 clear hw3
 have e0 := HX3.out.cell 0
 have e1 := HX3.out.cell 1
 have e2 := HX3.out.cell 2
 have e3 := HX3.out.cell 3
 have e4 := HX3.out.cell 4
 have e5 := HX3.out.cell 5
 have e6 := HX3.out.lt
 have a0 := HA.out.cell 0
 have a1 := HA.out.cell 1
 have a2 := HA.out.cell 2
 have a3 := HA.out.cell 3
 have a4 := HA.out.cell 4
 have a6 := HA.out.lt
 go_wp2_with fail
 repeat' first
   | (with_reducible refine (HJ.out _).mono ?_
      rintro e w4 ⟨rfl, rfl⟩
      rw [show jumpsB 8 = false by decide]
      go_wp2_with fail)
   | (with_reducible refine (HT.out _ _ _ _ _ (by first | exact HTY.out | simp) _).mono ?_
      rintro e w4 ⟨⟨b, rfl⟩, hb4⟩
      have HB4 := Hd (bl_trans HB3.out hb4)
      have HX4 := Hd (HX3.out.below hb4)
      have HA4 := Hd (HA.out.below hb4)
      clear hb4
      clear e0 e1 e2 e3 e4 e5 e6 a0 a1 a2 a3 a4 a6
      have e0 := HX4.out.cell 0
      have e1 := HX4.out.cell 1
      have e2 := HX4.out.cell 2
      have e3 := HX4.out.cell 3
      have e4 := HX4.out.cell 4
      have e5 := HX4.out.cell 5
      have e6 := HX4.out.lt
      have a0 := HA4.out.cell 0
      have a1 := HA4.out.cell 1
      have a2 := HA4.out.cell 2
      have a3 := HA4.out.cell 3
      have a4 := HA4.out.cell 4
      have a6 := HA4.out.lt
      cases b <;> (go_wp2_with fail; go_ret; exact ⟨⟨_, rfl⟩, HB4.out⟩))
   | (go_ret; exact ⟨⟨_, rfl⟩, HB3.out⟩)
theorem rins9 (ia ib : Int) (ty cl nm : List UInt8) (hty : ty.length ≤ 8388608) (w : World) : Calls Tryz.prog 224 #[insV ⟨9, ia, ib, ty, cl, nm⟩] w (SomeE w) := by
 have HJ := Hd (fun W => rjumps_calls 9 W)
 have HW := Hd (fun W => rword32_calls ia W)
 have HT := Hd (fun (ja jb : Int) (ty2 cl2 nm2 : List UInt8) (h2 : ty2.length ≤ 8388608) W => show Calls Tryz.prog 252 #[.agg #[.int .i64 9, .int .i64 ja, .int .i64 jb, .string ⟨⟨ty2⟩⟩, .string ⟨⟨cl2⟩⟩, .string ⟨⟨nm2⟩⟩]] W (SomeB W) from rtypeMay_calls ⟨9, ja, jb, ty2, cl2, nm2⟩ h2 W)
 have HTY := Hd hty
 have HC := Hd (fun W => rname_calls cl W)
 have HN := Hd (fun W => rname_calls nm W)
 obtain ⟨w1, hw1⟩ : ∃ w1, w1 = w.alloc (.cells (insArr ⟨9, ia, ib, ty, cl, nm⟩) 40) := ⟨_, rfl⟩
 have HX := Hd (show Blk w1 w.heap.size 40 (insArr ⟨9, ia, ib, ty, cl, nm⟩) by rw [hw1]; exact blk_new _ _ _ _ rfl)
 have HB1 := Hd (show Below w.heap.size w w1 by rw [hw1]; exact bl_alloc (Below.refl _ _) _)
 unfold insArr at hw1 HX
 unfold insV
 clear hty
 go_enter Tryz.func224, Tryz.ntmps224
 go_upto_region 1 with fail
 rw [← hw1]
 clear hw1
 have e0 := HX.out.cell 0
 have e6 := HX.out.lt
 go_wp2_with fail
 refine (rneeds9 _).mono ?_
 rintro e w2 ⟨rfl, hb2⟩
 obtain ⟨w3, hw3⟩ : ∃ w3, w3 = w2.alloc (.cells #[.bool true, .bool false, .bool true, .bool false, .bool false] 306) := ⟨_, rfl⟩
 have hb3 : Below w2.heap.size w2 w3 := by rw [hw3]; exact bl_alloc (Below.refl _ _) _
 have HA := Hd (show Blk w3 w2.heap.size 306 #[.bool true, .bool false, .bool true, .bool false, .bool false] by rw [hw3]; exact blk_new _ _ _ _ rfl)
 have HB3 := Hd (bl_trans HB1.out (bl_trans hb2 hb3))
 have HX3 := Hd (HX.out.below (bl_trans hb2 hb3))
 clear hb2 e0 e6 hb3
 go_upto_region 4 with fail
 rw [← hw3]
 clear hw3
 have e0 := HX3.out.cell 0
 have e1 := HX3.out.cell 1
 have e2 := HX3.out.cell 2
 have e3 := HX3.out.cell 3
 have e4 := HX3.out.cell 4
 have e5 := HX3.out.cell 5
 have e6 := HX3.out.lt
 have a0 := HA.out.cell 0
 have a1 := HA.out.cell 1
 have a2 := HA.out.cell 2
 have a3 := HA.out.cell 3
 have a4 := HA.out.cell 4
 have a6 := HA.out.lt
 go_wp2_with fail
 repeat' first
   | (with_reducible refine (HJ.out _).mono ?_
      rintro e w4 ⟨rfl, rfl⟩
      rw [show jumpsB 9 = false by decide]
      go_wp2_with fail)
   | (with_reducible refine (HT.out _ _ _ _ _ (by first | exact HTY.out | simp) _).mono ?_
      rintro e w4 ⟨⟨b, rfl⟩, hb4⟩
      have HB4 := Hd (bl_trans HB3.out hb4)
      have HX4 := Hd (HX3.out.below hb4)
      have HA4 := Hd (HA.out.below hb4)
      clear hb4
      clear e0 e1 e2 e3 e4 e5 e6 a0 a1 a2 a3 a4 a6
      have e0 := HX4.out.cell 0
      have e1 := HX4.out.cell 1
      have e2 := HX4.out.cell 2
      have e3 := HX4.out.cell 3
      have e4 := HX4.out.cell 4
      have e5 := HX4.out.cell 5
      have e6 := HX4.out.lt
      have a0 := HA4.out.cell 0
      have a1 := HA4.out.cell 1
      have a2 := HA4.out.cell 2
      have a3 := HA4.out.cell 3
      have a4 := HA4.out.cell 4
      have a6 := HA4.out.lt
      cases b <;> (go_wp2_with fail; go_ret; exact ⟨⟨_, rfl⟩, HB4.out⟩))
   | (go_ret; exact ⟨⟨_, rfl⟩, HB3.out⟩)
theorem rins10 (ia ib : Int) (ty cl nm : List UInt8) (hty : ty.length ≤ 8388608) (w : World) : Calls Tryz.prog 224 #[insV ⟨10, ia, ib, ty, cl, nm⟩] w (SomeE w) := by
 have HJ := Hd (fun W => rjumps_calls 10 W)
 have HW := Hd (fun W => rword32_calls ia W)
 have HT := Hd (fun (ja jb : Int) (ty2 cl2 nm2 : List UInt8) (h2 : ty2.length ≤ 8388608) W => show Calls Tryz.prog 252 #[.agg #[.int .i64 10, .int .i64 ja, .int .i64 jb, .string ⟨⟨ty2⟩⟩, .string ⟨⟨cl2⟩⟩, .string ⟨⟨nm2⟩⟩]] W (SomeB W) from rtypeMay_calls ⟨10, ja, jb, ty2, cl2, nm2⟩ h2 W)
 have HTY := Hd hty
 have HC := Hd (fun W => rname_calls cl W)
 have HN := Hd (fun W => rname_calls nm W)
 obtain ⟨w1, hw1⟩ : ∃ w1, w1 = w.alloc (.cells (insArr ⟨10, ia, ib, ty, cl, nm⟩) 40) := ⟨_, rfl⟩
 have HX := Hd (show Blk w1 w.heap.size 40 (insArr ⟨10, ia, ib, ty, cl, nm⟩) by rw [hw1]; exact blk_new _ _ _ _ rfl)
 have HB1 := Hd (show Below w.heap.size w w1 by rw [hw1]; exact bl_alloc (Below.refl _ _) _)
 unfold insArr at hw1 HX
 unfold insV
 clear hty
 go_enter Tryz.func224, Tryz.ntmps224
 go_upto_region 1 with fail
 rw [← hw1]
 clear hw1
 have e0 := HX.out.cell 0
 have e6 := HX.out.lt
 go_wp2_with fail
 refine (rneeds10 _).mono ?_
 rintro e w2 ⟨rfl, hb2⟩
 obtain ⟨w3, hw3⟩ : ∃ w3, w3 = w2.alloc (.cells #[.bool false, .bool false, .bool true, .bool false, .bool false] 306) := ⟨_, rfl⟩
 have hb3 : Below w2.heap.size w2 w3 := by rw [hw3]; exact bl_alloc (Below.refl _ _) _
 have HA := Hd (show Blk w3 w2.heap.size 306 #[.bool false, .bool false, .bool true, .bool false, .bool false] by rw [hw3]; exact blk_new _ _ _ _ rfl)
 have HB3 := Hd (bl_trans HB1.out (bl_trans hb2 hb3))
 have HX3 := Hd (HX.out.below (bl_trans hb2 hb3))
 clear hb2 e0 e6 hb3
 go_upto_region 4 with fail
 rw [← hw3]
 clear hw3
 have e0 := HX3.out.cell 0
 have e1 := HX3.out.cell 1
 have e2 := HX3.out.cell 2
 have e3 := HX3.out.cell 3
 have e4 := HX3.out.cell 4
 have e5 := HX3.out.cell 5
 have e6 := HX3.out.lt
 have a0 := HA.out.cell 0
 have a1 := HA.out.cell 1
 have a2 := HA.out.cell 2
 have a3 := HA.out.cell 3
 have a4 := HA.out.cell 4
 have a6 := HA.out.lt
 go_wp2_with fail
 repeat' first
   | (with_reducible refine (HJ.out _).mono ?_
      rintro e w4 ⟨rfl, rfl⟩
      rw [show jumpsB 10 = false by decide]
      go_wp2_with fail)
   | (with_reducible refine (HT.out _ _ _ _ _ (by first | exact HTY.out | simp) _).mono ?_
      rintro e w4 ⟨⟨b, rfl⟩, hb4⟩
      have HB4 := Hd (bl_trans HB3.out hb4)
      have HX4 := Hd (HX3.out.below hb4)
      have HA4 := Hd (HA.out.below hb4)
      clear hb4
      clear e0 e1 e2 e3 e4 e5 e6 a0 a1 a2 a3 a4 a6
      have e0 := HX4.out.cell 0
      have e1 := HX4.out.cell 1
      have e2 := HX4.out.cell 2
      have e3 := HX4.out.cell 3
      have e4 := HX4.out.cell 4
      have e5 := HX4.out.cell 5
      have e6 := HX4.out.lt
      have a0 := HA4.out.cell 0
      have a1 := HA4.out.cell 1
      have a2 := HA4.out.cell 2
      have a3 := HA4.out.cell 3
      have a4 := HA4.out.cell 4
      have a6 := HA4.out.lt
      cases b <;> (go_wp2_with fail; go_ret; exact ⟨⟨_, rfl⟩, HB4.out⟩))
   | (go_ret; exact ⟨⟨_, rfl⟩, HB3.out⟩)
theorem rins11 (ia ib : Int) (ty cl nm : List UInt8) (hty : ty.length ≤ 8388608) (w : World) : Calls Tryz.prog 224 #[insV ⟨11, ia, ib, ty, cl, nm⟩] w (SomeE w) := by
 have HJ := Hd (fun W => rjumps_calls 11 W)
 have HW := Hd (fun W => rword32_calls ia W)
 have HT := Hd (fun (ja jb : Int) (ty2 cl2 nm2 : List UInt8) (h2 : ty2.length ≤ 8388608) W => show Calls Tryz.prog 252 #[.agg #[.int .i64 11, .int .i64 ja, .int .i64 jb, .string ⟨⟨ty2⟩⟩, .string ⟨⟨cl2⟩⟩, .string ⟨⟨nm2⟩⟩]] W (SomeB W) from rtypeMay_calls ⟨11, ja, jb, ty2, cl2, nm2⟩ h2 W)
 have HTY := Hd hty
 have HC := Hd (fun W => rname_calls cl W)
 have HN := Hd (fun W => rname_calls nm W)
 obtain ⟨w1, hw1⟩ : ∃ w1, w1 = w.alloc (.cells (insArr ⟨11, ia, ib, ty, cl, nm⟩) 40) := ⟨_, rfl⟩
 have HX := Hd (show Blk w1 w.heap.size 40 (insArr ⟨11, ia, ib, ty, cl, nm⟩) by rw [hw1]; exact blk_new _ _ _ _ rfl)
 have HB1 := Hd (show Below w.heap.size w w1 by rw [hw1]; exact bl_alloc (Below.refl _ _) _)
 unfold insArr at hw1 HX
 unfold insV
 clear hty
 go_enter Tryz.func224, Tryz.ntmps224
 go_upto_region 1 with fail
 rw [← hw1]
 clear hw1
 have e0 := HX.out.cell 0
 have e6 := HX.out.lt
 go_wp2_with fail
 refine (rneeds11 _).mono ?_
 rintro e w2 ⟨rfl, hb2⟩
 obtain ⟨w3, hw3⟩ : ∃ w3, w3 = w2.alloc (.cells #[.bool false, .bool false, .bool false, .bool false, .bool false] 306) := ⟨_, rfl⟩
 have hb3 : Below w2.heap.size w2 w3 := by rw [hw3]; exact bl_alloc (Below.refl _ _) _
 have HA := Hd (show Blk w3 w2.heap.size 306 #[.bool false, .bool false, .bool false, .bool false, .bool false] by rw [hw3]; exact blk_new _ _ _ _ rfl)
 have HB3 := Hd (bl_trans HB1.out (bl_trans hb2 hb3))
 have HX3 := Hd (HX.out.below (bl_trans hb2 hb3))
 clear hb2 e0 e6 hb3
 go_upto_region 4 with fail
 rw [← hw3]
 clear hw3
 have e0 := HX3.out.cell 0
 have e1 := HX3.out.cell 1
 have e2 := HX3.out.cell 2
 have e3 := HX3.out.cell 3
 have e4 := HX3.out.cell 4
 have e5 := HX3.out.cell 5
 have e6 := HX3.out.lt
 have a0 := HA.out.cell 0
 have a1 := HA.out.cell 1
 have a2 := HA.out.cell 2
 have a3 := HA.out.cell 3
 have a4 := HA.out.cell 4
 have a6 := HA.out.lt
 go_wp2_with fail
 repeat' first
   | (with_reducible refine (HJ.out _).mono ?_
      rintro e w4 ⟨rfl, rfl⟩
      rw [show jumpsB 11 = false by decide]
      go_wp2_with fail)
   | (with_reducible refine (HT.out _ _ _ _ _ (by first | exact HTY.out | simp) _).mono ?_
      rintro e w4 ⟨⟨b, rfl⟩, hb4⟩
      have HB4 := Hd (bl_trans HB3.out hb4)
      have HX4 := Hd (HX3.out.below hb4)
      have HA4 := Hd (HA.out.below hb4)
      clear hb4
      clear e0 e1 e2 e3 e4 e5 e6 a0 a1 a2 a3 a4 a6
      have e0 := HX4.out.cell 0
      have e1 := HX4.out.cell 1
      have e2 := HX4.out.cell 2
      have e3 := HX4.out.cell 3
      have e4 := HX4.out.cell 4
      have e5 := HX4.out.cell 5
      have e6 := HX4.out.lt
      have a0 := HA4.out.cell 0
      have a1 := HA4.out.cell 1
      have a2 := HA4.out.cell 2
      have a3 := HA4.out.cell 3
      have a4 := HA4.out.cell 4
      have a6 := HA4.out.lt
      cases b <;> (go_wp2_with fail; go_ret; exact ⟨⟨_, rfl⟩, HB4.out⟩))
   | (go_ret; exact ⟨⟨_, rfl⟩, HB3.out⟩)
theorem rins12 (ia ib : Int) (ty cl nm : List UInt8) (hty : ty.length ≤ 8388608) (w : World) : Calls Tryz.prog 224 #[insV ⟨12, ia, ib, ty, cl, nm⟩] w (SomeE w) := by
 have HJ := Hd (fun W => rjumps_calls 12 W)
 have HW := Hd (fun W => rword32_calls ia W)
 have HT := Hd (fun (ja jb : Int) (ty2 cl2 nm2 : List UInt8) (h2 : ty2.length ≤ 8388608) W => show Calls Tryz.prog 252 #[.agg #[.int .i64 12, .int .i64 ja, .int .i64 jb, .string ⟨⟨ty2⟩⟩, .string ⟨⟨cl2⟩⟩, .string ⟨⟨nm2⟩⟩]] W (SomeB W) from rtypeMay_calls ⟨12, ja, jb, ty2, cl2, nm2⟩ h2 W)
 have HTY := Hd hty
 have HC := Hd (fun W => rname_calls cl W)
 have HN := Hd (fun W => rname_calls nm W)
 obtain ⟨w1, hw1⟩ : ∃ w1, w1 = w.alloc (.cells (insArr ⟨12, ia, ib, ty, cl, nm⟩) 40) := ⟨_, rfl⟩
 have HX := Hd (show Blk w1 w.heap.size 40 (insArr ⟨12, ia, ib, ty, cl, nm⟩) by rw [hw1]; exact blk_new _ _ _ _ rfl)
 have HB1 := Hd (show Below w.heap.size w w1 by rw [hw1]; exact bl_alloc (Below.refl _ _) _)
 unfold insArr at hw1 HX
 unfold insV
 clear hty
 go_enter Tryz.func224, Tryz.ntmps224
 go_upto_region 1 with fail
 rw [← hw1]
 clear hw1
 have e0 := HX.out.cell 0
 have e6 := HX.out.lt
 go_wp2_with fail
 refine (rneeds12 _).mono ?_
 rintro e w2 ⟨rfl, hb2⟩
 obtain ⟨w3, hw3⟩ : ∃ w3, w3 = w2.alloc (.cells #[.bool true, .bool true, .bool false, .bool false, .bool false] 306) := ⟨_, rfl⟩
 have hb3 : Below w2.heap.size w2 w3 := by rw [hw3]; exact bl_alloc (Below.refl _ _) _
 have HA := Hd (show Blk w3 w2.heap.size 306 #[.bool true, .bool true, .bool false, .bool false, .bool false] by rw [hw3]; exact blk_new _ _ _ _ rfl)
 have HB3 := Hd (bl_trans HB1.out (bl_trans hb2 hb3))
 have HX3 := Hd (HX.out.below (bl_trans hb2 hb3))
 clear hb2 e0 e6 hb3
 go_upto_region 4 with fail
 rw [← hw3]
 clear hw3
 have e0 := HX3.out.cell 0
 have e1 := HX3.out.cell 1
 have e2 := HX3.out.cell 2
 have e3 := HX3.out.cell 3
 have e4 := HX3.out.cell 4
 have e5 := HX3.out.cell 5
 have e6 := HX3.out.lt
 have a0 := HA.out.cell 0
 have a1 := HA.out.cell 1
 have a2 := HA.out.cell 2
 have a3 := HA.out.cell 3
 have a4 := HA.out.cell 4
 have a6 := HA.out.lt
 go_wp2_with fail
 repeat' first
   | (with_reducible refine (HJ.out _).mono ?_
      rintro e w4 ⟨rfl, rfl⟩
      rw [show jumpsB 12 = true by decide]
      go_wp2_with fail)
   | (with_reducible refine (HT.out _ _ _ _ _ (by first | exact HTY.out | simp) _).mono ?_
      rintro e w4 ⟨⟨b, rfl⟩, hb4⟩
      have HB4 := Hd (bl_trans HB3.out hb4)
      have HX4 := Hd (HX3.out.below hb4)
      have HA4 := Hd (HA.out.below hb4)
      clear hb4
      clear e0 e1 e2 e3 e4 e5 e6 a0 a1 a2 a3 a4 a6
      have e0 := HX4.out.cell 0
      have e1 := HX4.out.cell 1
      have e2 := HX4.out.cell 2
      have e3 := HX4.out.cell 3
      have e4 := HX4.out.cell 4
      have e5 := HX4.out.cell 5
      have e6 := HX4.out.lt
      have a0 := HA4.out.cell 0
      have a1 := HA4.out.cell 1
      have a2 := HA4.out.cell 2
      have a3 := HA4.out.cell 3
      have a4 := HA4.out.cell 4
      have a6 := HA4.out.lt
      cases b <;> (go_wp2_with fail; go_ret; exact ⟨⟨_, rfl⟩, HB4.out⟩))
   | (go_ret; exact ⟨⟨_, rfl⟩, HB3.out⟩)
theorem rins13 (ia ib : Int) (ty cl nm : List UInt8) (hty : ty.length ≤ 8388608) (w : World) : Calls Tryz.prog 224 #[insV ⟨13, ia, ib, ty, cl, nm⟩] w (SomeE w) := by
 have HJ := Hd (fun W => rjumps_calls 13 W)
 have HW := Hd (fun W => rword32_calls ia W)
 have HT := Hd (fun (ja jb : Int) (ty2 cl2 nm2 : List UInt8) (h2 : ty2.length ≤ 8388608) W => show Calls Tryz.prog 252 #[.agg #[.int .i64 13, .int .i64 ja, .int .i64 jb, .string ⟨⟨ty2⟩⟩, .string ⟨⟨cl2⟩⟩, .string ⟨⟨nm2⟩⟩]] W (SomeB W) from rtypeMay_calls ⟨13, ja, jb, ty2, cl2, nm2⟩ h2 W)
 have HTY := Hd hty
 have HC := Hd (fun W => rname_calls cl W)
 have HN := Hd (fun W => rname_calls nm W)
 obtain ⟨w1, hw1⟩ : ∃ w1, w1 = w.alloc (.cells (insArr ⟨13, ia, ib, ty, cl, nm⟩) 40) := ⟨_, rfl⟩
 have HX := Hd (show Blk w1 w.heap.size 40 (insArr ⟨13, ia, ib, ty, cl, nm⟩) by rw [hw1]; exact blk_new _ _ _ _ rfl)
 have HB1 := Hd (show Below w.heap.size w w1 by rw [hw1]; exact bl_alloc (Below.refl _ _) _)
 unfold insArr at hw1 HX
 unfold insV
 clear hty
 go_enter Tryz.func224, Tryz.ntmps224
 go_upto_region 1 with fail
 rw [← hw1]
 clear hw1
 have e0 := HX.out.cell 0
 have e6 := HX.out.lt
 go_wp2_with fail
 refine (rneeds13 _).mono ?_
 rintro e w2 ⟨rfl, hb2⟩
 obtain ⟨w3, hw3⟩ : ∃ w3, w3 = w2.alloc (.cells #[.bool true, .bool false, .bool false, .bool false, .bool false] 306) := ⟨_, rfl⟩
 have hb3 : Below w2.heap.size w2 w3 := by rw [hw3]; exact bl_alloc (Below.refl _ _) _
 have HA := Hd (show Blk w3 w2.heap.size 306 #[.bool true, .bool false, .bool false, .bool false, .bool false] by rw [hw3]; exact blk_new _ _ _ _ rfl)
 have HB3 := Hd (bl_trans HB1.out (bl_trans hb2 hb3))
 have HX3 := Hd (HX.out.below (bl_trans hb2 hb3))
 clear hb2 e0 e6 hb3
 go_upto_region 4 with fail
 rw [← hw3]
 clear hw3
 have e0 := HX3.out.cell 0
 have e1 := HX3.out.cell 1
 have e2 := HX3.out.cell 2
 have e3 := HX3.out.cell 3
 have e4 := HX3.out.cell 4
 have e5 := HX3.out.cell 5
 have e6 := HX3.out.lt
 have a0 := HA.out.cell 0
 have a1 := HA.out.cell 1
 have a2 := HA.out.cell 2
 have a3 := HA.out.cell 3
 have a4 := HA.out.cell 4
 have a6 := HA.out.lt
 go_wp2_with fail
 repeat' first
   | (with_reducible refine (HJ.out _).mono ?_
      rintro e w4 ⟨rfl, rfl⟩
      rw [show jumpsB 13 = true by decide]
      go_wp2_with fail)
   | (with_reducible refine (HT.out _ _ _ _ _ (by first | exact HTY.out | simp) _).mono ?_
      rintro e w4 ⟨⟨b, rfl⟩, hb4⟩
      have HB4 := Hd (bl_trans HB3.out hb4)
      have HX4 := Hd (HX3.out.below hb4)
      have HA4 := Hd (HA.out.below hb4)
      clear hb4
      clear e0 e1 e2 e3 e4 e5 e6 a0 a1 a2 a3 a4 a6
      have e0 := HX4.out.cell 0
      have e1 := HX4.out.cell 1
      have e2 := HX4.out.cell 2
      have e3 := HX4.out.cell 3
      have e4 := HX4.out.cell 4
      have e5 := HX4.out.cell 5
      have e6 := HX4.out.lt
      have a0 := HA4.out.cell 0
      have a1 := HA4.out.cell 1
      have a2 := HA4.out.cell 2
      have a3 := HA4.out.cell 3
      have a4 := HA4.out.cell 4
      have a6 := HA4.out.lt
      cases b <;> (go_wp2_with fail; go_ret; exact ⟨⟨_, rfl⟩, HB4.out⟩))
   | (go_ret; exact ⟨⟨_, rfl⟩, HB3.out⟩)
theorem rins14 (ia ib : Int) (ty cl nm : List UInt8) (hty : ty.length ≤ 8388608) (w : World) : Calls Tryz.prog 224 #[insV ⟨14, ia, ib, ty, cl, nm⟩] w (SomeE w) := by
 have HJ := Hd (fun W => rjumps_calls 14 W)
 have HW := Hd (fun W => rword32_calls ia W)
 have HT := Hd (fun (ja jb : Int) (ty2 cl2 nm2 : List UInt8) (h2 : ty2.length ≤ 8388608) W => show Calls Tryz.prog 252 #[.agg #[.int .i64 14, .int .i64 ja, .int .i64 jb, .string ⟨⟨ty2⟩⟩, .string ⟨⟨cl2⟩⟩, .string ⟨⟨nm2⟩⟩]] W (SomeB W) from rtypeMay_calls ⟨14, ja, jb, ty2, cl2, nm2⟩ h2 W)
 have HTY := Hd hty
 have HC := Hd (fun W => rname_calls cl W)
 have HN := Hd (fun W => rname_calls nm W)
 obtain ⟨w1, hw1⟩ : ∃ w1, w1 = w.alloc (.cells (insArr ⟨14, ia, ib, ty, cl, nm⟩) 40) := ⟨_, rfl⟩
 have HX := Hd (show Blk w1 w.heap.size 40 (insArr ⟨14, ia, ib, ty, cl, nm⟩) by rw [hw1]; exact blk_new _ _ _ _ rfl)
 have HB1 := Hd (show Below w.heap.size w w1 by rw [hw1]; exact bl_alloc (Below.refl _ _) _)
 unfold insArr at hw1 HX
 unfold insV
 clear hty
 go_enter Tryz.func224, Tryz.ntmps224
 go_upto_region 1 with fail
 rw [← hw1]
 clear hw1
 have e0 := HX.out.cell 0
 have e6 := HX.out.lt
 go_wp2_with fail
 refine (rneeds14 _).mono ?_
 rintro e w2 ⟨rfl, hb2⟩
 obtain ⟨w3, hw3⟩ : ∃ w3, w3 = w2.alloc (.cells #[.bool true, .bool false, .bool false, .bool false, .bool false] 306) := ⟨_, rfl⟩
 have hb3 : Below w2.heap.size w2 w3 := by rw [hw3]; exact bl_alloc (Below.refl _ _) _
 have HA := Hd (show Blk w3 w2.heap.size 306 #[.bool true, .bool false, .bool false, .bool false, .bool false] by rw [hw3]; exact blk_new _ _ _ _ rfl)
 have HB3 := Hd (bl_trans HB1.out (bl_trans hb2 hb3))
 have HX3 := Hd (HX.out.below (bl_trans hb2 hb3))
 clear hb2 e0 e6 hb3
 go_upto_region 4 with fail
 rw [← hw3]
 clear hw3
 have e0 := HX3.out.cell 0
 have e1 := HX3.out.cell 1
 have e2 := HX3.out.cell 2
 have e3 := HX3.out.cell 3
 have e4 := HX3.out.cell 4
 have e5 := HX3.out.cell 5
 have e6 := HX3.out.lt
 have a0 := HA.out.cell 0
 have a1 := HA.out.cell 1
 have a2 := HA.out.cell 2
 have a3 := HA.out.cell 3
 have a4 := HA.out.cell 4
 have a6 := HA.out.lt
 go_wp2_with fail
 repeat' first
   | (with_reducible refine (HJ.out _).mono ?_
      rintro e w4 ⟨rfl, rfl⟩
      rw [show jumpsB 14 = true by decide]
      go_wp2_with fail)
   | (with_reducible refine (HT.out _ _ _ _ _ (by first | exact HTY.out | simp) _).mono ?_
      rintro e w4 ⟨⟨b, rfl⟩, hb4⟩
      have HB4 := Hd (bl_trans HB3.out hb4)
      have HX4 := Hd (HX3.out.below hb4)
      have HA4 := Hd (HA.out.below hb4)
      clear hb4
      clear e0 e1 e2 e3 e4 e5 e6 a0 a1 a2 a3 a4 a6
      have e0 := HX4.out.cell 0
      have e1 := HX4.out.cell 1
      have e2 := HX4.out.cell 2
      have e3 := HX4.out.cell 3
      have e4 := HX4.out.cell 4
      have e5 := HX4.out.cell 5
      have e6 := HX4.out.lt
      have a0 := HA4.out.cell 0
      have a1 := HA4.out.cell 1
      have a2 := HA4.out.cell 2
      have a3 := HA4.out.cell 3
      have a4 := HA4.out.cell 4
      have a6 := HA4.out.lt
      cases b <;> (go_wp2_with fail; go_ret; exact ⟨⟨_, rfl⟩, HB4.out⟩))
   | (go_ret; exact ⟨⟨_, rfl⟩, HB3.out⟩)
end Go.Proofs.YtddbnboicmaooaaGreatDoor
