import Derived.Test.YtddbnboicmaooaaGreatDoorRe2
namespace Go.Proofs.YtddbnboicmaooaaGreatDoor
set_option maxRecDepth 100000
set_option maxHeartbeats 16000000
set_option linter.unusedVariables false
set_option linter.unusedSimpArgs false
open Go.RowKit Go.Shelf Go.Lib
theorem rins1 (ia ib : Int) (ty cl nm : List UInt8) (hty : ty.length ≤ 8388608) (w : World) : Calls Tryz.prog 224 #[insV ⟨1, ia, ib, ty, cl, nm⟩] w (SomeE w) := by
 have HJ := Hd (fun W => rjumps_calls 1 W)
 have HW := Hd (fun W => rword32_calls ia W)
 have HT := Hd (fun (ja jb : Int) (ty2 cl2 nm2 : List UInt8) (h2 : ty2.length ≤ 8388608) W => show Calls Tryz.prog 252 #[.agg #[.int .i64 1, .int .i64 ja, .int .i64 jb, .string ⟨⟨ty2⟩⟩, .string ⟨⟨cl2⟩⟩, .string ⟨⟨nm2⟩⟩]] W (SomeB W) from rtypeMay_calls ⟨1, ja, jb, ty2, cl2, nm2⟩ h2 W)
 have HTY := Hd hty
 have HC := Hd (fun W => rname_calls cl W)
 have HN := Hd (fun W => rname_calls nm W)
 obtain ⟨w1, hw1⟩ : ∃ w1, w1 = w.alloc (.cells (insArr ⟨1, ia, ib, ty, cl, nm⟩) 40) := ⟨_, rfl⟩
 have HX := Hd (show Blk w1 w.heap.size 40 (insArr ⟨1, ia, ib, ty, cl, nm⟩) by rw [hw1]; exact blk_new _ _ _ _ rfl)
 have HB1 := Hd (show Below w.heap.size w w1 by rw [hw1]; exact bl_alloc (Below.refl _ _) _)
 unfold insArr at hw1 HX
 unfold insV
 clear hty
 go_enter Tryz.func224, Tryz.ntmps224
 go_upto_region 1 with fail
 rw [← hw1]
 clear hw1
 have e0 := HX.out.cell 0
 have e6 := HX.out.lt
 go_wp2_with fail
 refine (rneeds1 _).mono ?_
 rintro e w2 ⟨rfl, hb2⟩
 obtain ⟨w3, hw3⟩ : ∃ w3, w3 = w2.alloc (.cells #[.bool false, .bool false, .bool false, .bool false, .bool false] 306) := ⟨_, rfl⟩
 have hb3 : Below w2.heap.size w2 w3 := by rw [hw3]; exact bl_alloc (Below.refl _ _) _
 have HA := Hd (show Blk w3 w2.heap.size 306 #[.bool false, .bool false, .bool false, .bool false, .bool false] by rw [hw3]; exact blk_new _ _ _ _ rfl)
 have HB3 := Hd (bl_trans HB1.out (bl_trans hb2 hb3))
 have HX3 := Hd (HX.out.below (bl_trans hb2 hb3))
 clear hb2 e0 e6 hb3
 go_upto_region 4 with fail
 rw [← hw3]
 clear hw3
 have e0 := HX3.out.cell 0
 have e1 := HX3.out.cell 1
 have e2 := HX3.out.cell 2
 have e3 := HX3.out.cell 3
 have e4 := HX3.out.cell 4
 have e5 := HX3.out.cell 5
 have e6 := HX3.out.lt
 have a0 := HA.out.cell 0
 have a1 := HA.out.cell 1
 have a2 := HA.out.cell 2
 have a3 := HA.out.cell 3
 have a4 := HA.out.cell 4
 have a6 := HA.out.lt
 go_wp2_with fail
 repeat' first
   | (with_reducible refine (HJ.out _).mono ?_
      rintro e w4 ⟨rfl, rfl⟩
      rw [show jumpsB 1 = false by decide]
      go_wp2_with fail)
   | (with_reducible refine (HT.out _ _ _ _ _ (by first | exact HTY.out | simp) _).mono ?_
      rintro e w4 ⟨⟨b, rfl⟩, hb4⟩
      have HB4 := Hd (bl_trans HB3.out hb4)
      have HX4 := Hd (HX3.out.below hb4)
      have HA4 := Hd (HA.out.below hb4)
      clear hb4
      clear e0 e1 e2 e3 e4 e5 e6 a0 a1 a2 a3 a4 a6
      have e0 := HX4.out.cell 0
      have e1 := HX4.out.cell 1
      have e2 := HX4.out.cell 2
      have e3 := HX4.out.cell 3
      have e4 := HX4.out.cell 4
      have e5 := HX4.out.cell 5
      have e6 := HX4.out.lt
      have a0 := HA4.out.cell 0
      have a1 := HA4.out.cell 1
      have a2 := HA4.out.cell 2
      have a3 := HA4.out.cell 3
      have a4 := HA4.out.cell 4
      have a6 := HA4.out.lt
      cases b <;> (go_wp2_with fail; go_ret; exact ⟨⟨_, rfl⟩, HB4.out⟩))
   | (go_ret; exact ⟨⟨_, rfl⟩, HB3.out⟩)
theorem rins2 (ia ib : Int) (ty cl nm : List UInt8) (hty : ty.length ≤ 8388608) (w : World) : Calls Tryz.prog 224 #[insV ⟨2, ia, ib, ty, cl, nm⟩] w (SomeE w) := by
 have HJ := Hd (fun W => rjumps_calls 2 W)
 have HW := Hd (fun W => rword32_calls ia W)
 have HT := Hd (fun (ja jb : Int) (ty2 cl2 nm2 : List UInt8) (h2 : ty2.length ≤ 8388608) W => show Calls Tryz.prog 252 #[.agg #[.int .i64 2, .int .i64 ja, .int .i64 jb, .string ⟨⟨ty2⟩⟩, .string ⟨⟨cl2⟩⟩, .string ⟨⟨nm2⟩⟩]] W (SomeB W) from rtypeMay_calls ⟨2, ja, jb, ty2, cl2, nm2⟩ h2 W)
 have HTY := Hd hty
 have HC := Hd (fun W => rname_calls cl W)
 have HN := Hd (fun W => rname_calls nm W)
 obtain ⟨w1, hw1⟩ : ∃ w1, w1 = w.alloc (.cells (insArr ⟨2, ia, ib, ty, cl, nm⟩) 40) := ⟨_, rfl⟩
 have HX := Hd (show Blk w1 w.heap.size 40 (insArr ⟨2, ia, ib, ty, cl, nm⟩) by rw [hw1]; exact blk_new _ _ _ _ rfl)
 have HB1 := Hd (show Below w.heap.size w w1 by rw [hw1]; exact bl_alloc (Below.refl _ _) _)
 unfold insArr at hw1 HX
 unfold insV
 clear hty
 go_enter Tryz.func224, Tryz.ntmps224
 go_upto_region 1 with fail
 rw [← hw1]
 clear hw1
 have e0 := HX.out.cell 0
 have e6 := HX.out.lt
 go_wp2_with fail
 refine (rneeds2 _).mono ?_
 rintro e w2 ⟨rfl, hb2⟩
 obtain ⟨w3, hw3⟩ : ∃ w3, w3 = w2.alloc (.cells #[.bool true, .bool false, .bool true, .bool false, .bool false] 306) := ⟨_, rfl⟩
 have hb3 : Below w2.heap.size w2 w3 := by rw [hw3]; exact bl_alloc (Below.refl _ _) _
 have HA := Hd (show Blk w3 w2.heap.size 306 #[.bool true, .bool false, .bool true, .bool false, .bool false] by rw [hw3]; exact blk_new _ _ _ _ rfl)
 have HB3 := Hd (bl_trans HB1.out (bl_trans hb2 hb3))
 have HX3 := Hd (HX.out.below (bl_trans hb2 hb3))
 clear hb2 e0 e6 hb3
 go_upto_region 4 with fail
 rw [← hw3]
 clear hw3
 have e0 := HX3.out.cell 0
 have e1 := HX3.out.cell 1
 have e2 := HX3.out.cell 2
 have e3 := HX3.out.cell 3
 have e4 := HX3.out.cell 4
 have e5 := HX3.out.cell 5
 have e6 := HX3.out.lt
 have a0 := HA.out.cell 0
 have a1 := HA.out.cell 1
 have a2 := HA.out.cell 2
 have a3 := HA.out.cell 3
 have a4 := HA.out.cell 4
 have a6 := HA.out.lt
 go_wp2_with fail
 repeat' first
   | (with_reducible refine (HW.out _).mono ?_
      rintro e w4 ⟨⟨b, rfl⟩, rfl⟩
      cases b <;> go_wp2_with fail)
   | (with_reducible refine (HJ.out _).mono ?_
      rintro e w4 ⟨rfl, rfl⟩
      rw [show jumpsB 2 = false by decide]
      go_wp2_with fail)
   | (with_reducible refine (HT.out _ _ _ _ _ (by first | exact HTY.out | simp) _).mono ?_
      rintro e w4 ⟨⟨b, rfl⟩, hb4⟩
      have HB4 := Hd (bl_trans HB3.out hb4)
      have HX4 := Hd (HX3.out.below hb4)
      have HA4 := Hd (HA.out.below hb4)
      clear hb4
      clear e0 e1 e2 e3 e4 e5 e6 a0 a1 a2 a3 a4 a6
      have e0 := HX4.out.cell 0
      have e1 := HX4.out.cell 1
      have e2 := HX4.out.cell 2
      have e3 := HX4.out.cell 3
      have e4 := HX4.out.cell 4
      have e5 := HX4.out.cell 5
      have e6 := HX4.out.lt
      have a0 := HA4.out.cell 0
      have a1 := HA4.out.cell 1
      have a2 := HA4.out.cell 2
      have a3 := HA4.out.cell 3
      have a4 := HA4.out.cell 4
      have a6 := HA4.out.lt
      cases b <;> (go_wp2_with fail; go_ret; exact ⟨⟨_, rfl⟩, HB4.out⟩))
   | (go_ret; exact ⟨⟨_, rfl⟩, HB3.out⟩)
theorem rins3 (ia ib : Int) (ty cl nm : List UInt8) (hty : ty.length ≤ 8388608) (w : World) : Calls Tryz.prog 224 #[insV ⟨3, ia, ib, ty, cl, nm⟩] w (SomeE w) := by
 have HJ := Hd (fun W => rjumps_calls 3 W)
 have HW := Hd (fun W => rword32_calls ia W)
 have HT := Hd (fun (ja jb : Int) (ty2 cl2 nm2 : List UInt8) (h2 : ty2.length ≤ 8388608) W => show Calls Tryz.prog 252 #[.agg #[.int .i64 3, .int .i64 ja, .int .i64 jb, .string ⟨⟨ty2⟩⟩, .string ⟨⟨cl2⟩⟩, .string ⟨⟨nm2⟩⟩]] W (SomeB W) from rtypeMay_calls ⟨3, ja, jb, ty2, cl2, nm2⟩ h2 W)
 have HTY := Hd hty
 have HC := Hd (fun W => rname_calls cl W)
 have HN := Hd (fun W => rname_calls nm W)
 obtain ⟨w1, hw1⟩ : ∃ w1, w1 = w.alloc (.cells (insArr ⟨3, ia, ib, ty, cl, nm⟩) 40) := ⟨_, rfl⟩
 have HX := Hd (show Blk w1 w.heap.size 40 (insArr ⟨3, ia, ib, ty, cl, nm⟩) by rw [hw1]; exact blk_new _ _ _ _ rfl)
 have HB1 := Hd (show Below w.heap.size w w1 by rw [hw1]; exact bl_alloc (Below.refl _ _) _)
 unfold insArr at hw1 HX
 unfold insV
 clear hty
 go_enter Tryz.func224, Tryz.ntmps224
 go_upto_region 1 with fail
 rw [← hw1]
 clear hw1
 have e0 := HX.out.cell 0
 have e6 := HX.out.lt
 go_wp2_with fail
 refine (rneeds3 _).mono ?_
 rintro e w2 ⟨rfl, hb2⟩
 obtain ⟨w3, hw3⟩ : ∃ w3, w3 = w2.alloc (.cells #[.bool false, .bool false, .bool false, .bool false, .bool false] 306) := ⟨_, rfl⟩
 have hb3 : Below w2.heap.size w2 w3 := by rw [hw3]; exact bl_alloc (Below.refl _ _) _
 have HA := Hd (show Blk w3 w2.heap.size 306 #[.bool false, .bool false, .bool false, .bool false, .bool false] by rw [hw3]; exact blk_new _ _ _ _ rfl)
 have HB3 := Hd (bl_trans HB1.out (bl_trans hb2 hb3))
 have HX3 := Hd (HX.out.below (bl_trans hb2 hb3))
 clear hb2 e0 e6 hb3
 go_upto_region 4 with fail
 rw [← hw3]
 clear hw3
 have e0 := HX3.out.cell 0
 have e1 := HX3.out.cell 1
 have e2 := HX3.out.cell 2
 have e3 := HX3.out.cell 3
 have e4 := HX3.out.cell 4
 have e5 := HX3.out.cell 5
 have e6 := HX3.out.lt
 have a0 := HA.out.cell 0
 have a1 := HA.out.cell 1
 have a2 := HA.out.cell 2
 have a3 := HA.out.cell 3
 have a4 := HA.out.cell 4
 have a6 := HA.out.lt
 go_wp2_with fail
 repeat' first
   | (with_reducible refine (HJ.out _).mono ?_
      rintro e w4 ⟨rfl, rfl⟩
      rw [show jumpsB 3 = false by decide]
      go_wp2_with fail)
   | (with_reducible refine (HT.out _ _ _ _ _ (by first | exact HTY.out | simp) _).mono ?_
      rintro e w4 ⟨⟨b, rfl⟩, hb4⟩
      have HB4 := Hd (bl_trans HB3.out hb4)
      have HX4 := Hd (HX3.out.below hb4)
      have HA4 := Hd (HA.out.below hb4)
      clear hb4
      clear e0 e1 e2 e3 e4 e5 e6 a0 a1 a2 a3 a4 a6
      have e0 := HX4.out.cell 0
      have e1 := HX4.out.cell 1
      have e2 := HX4.out.cell 2
      have e3 := HX4.out.cell 3
      have e4 := HX4.out.cell 4
      have e5 := HX4.out.cell 5
      have e6 := HX4.out.lt
      have a0 := HA4.out.cell 0
      have a1 := HA4.out.cell 1
      have a2 := HA4.out.cell 2
      have a3 := HA4.out.cell 3
      have a4 := HA4.out.cell 4
      have a6 := HA4.out.lt
      cases b <;> (go_wp2_with fail; go_ret; exact ⟨⟨_, rfl⟩, HB4.out⟩))
   | (go_ret; exact ⟨⟨_, rfl⟩, HB3.out⟩)
theorem rins4 (ia ib : Int) (ty cl nm : List UInt8) (hty : ty.length ≤ 8388608) (w : World) : Calls Tryz.prog 224 #[insV ⟨4, ia, ib, ty, cl, nm⟩] w (SomeE w) := by
 have HJ := Hd (fun W => rjumps_calls 4 W)
 have HW := Hd (fun W => rword32_calls ia W)
 have HT := Hd (fun (ja jb : Int) (ty2 cl2 nm2 : List UInt8) (h2 : ty2.length ≤ 8388608) W => show Calls Tryz.prog 252 #[.agg #[.int .i64 4, .int .i64 ja, .int .i64 jb, .string ⟨⟨ty2⟩⟩, .string ⟨⟨cl2⟩⟩, .string ⟨⟨nm2⟩⟩]] W (SomeB W) from rtypeMay_calls ⟨4, ja, jb, ty2, cl2, nm2⟩ h2 W)
 have HTY := Hd hty
 have HC := Hd (fun W => rname_calls cl W)
 have HN := Hd (fun W => rname_calls nm W)
 obtain ⟨w1, hw1⟩ : ∃ w1, w1 = w.alloc (.cells (insArr ⟨4, ia, ib, ty, cl, nm⟩) 40) := ⟨_, rfl⟩
 have HX := Hd (show Blk w1 w.heap.size 40 (insArr ⟨4, ia, ib, ty, cl, nm⟩) by rw [hw1]; exact blk_new _ _ _ _ rfl)
 have HB1 := Hd (show Below w.heap.size w w1 by rw [hw1]; exact bl_alloc (Below.refl _ _) _)
 unfold insArr at hw1 HX
 unfold insV
 clear hty
 go_enter Tryz.func224, Tryz.ntmps224
 go_upto_region 1 with fail
 rw [← hw1]
 clear hw1
 have e0 := HX.out.cell 0
 have e6 := HX.out.lt
 go_wp2_with fail
 refine (rneeds4 _).mono ?_
 rintro e w2 ⟨rfl, hb2⟩
 obtain ⟨w3, hw3⟩ : ∃ w3, w3 = w2.alloc (.cells #[.bool true, .bool false, .bool false, .bool false, .bool false] 306) := ⟨_, rfl⟩
 have hb3 : Below w2.heap.size w2 w3 := by rw [hw3]; exact bl_alloc (Below.refl _ _) _
 have HA := Hd (show Blk w3 w2.heap.size 306 #[.bool true, .bool false, .bool false, .bool false, .bool false] by rw [hw3]; exact blk_new _ _ _ _ rfl)
 have HB3 := Hd (bl_trans HB1.out (bl_trans hb2 hb3))
 have HX3 := Hd (HX.out.below (bl_trans hb2 hb3))
 clear hb2 e0 e6 hb3
 go_upto_region 4 with fail
 rw [← hw3]
 clear hw3
 have e0 := HX3.out.cell 0
 have e1 := HX3.out.cell 1
 have e2 := HX3.out.cell 2
 have e3 := HX3.out.cell 3
 have e4 := HX3.out.cell 4
 have e5 := HX3.out.cell 5
 have e6 := HX3.out.lt
 have a0 := HA.out.cell 0
 have a1 := HA.out.cell 1
 have a2 := HA.out.cell 2
 have a3 := HA.out.cell 3
 have a4 := HA.out.cell 4
 have a6 := HA.out.lt
 go_wp2_with fail
 repeat' first
   | (with_reducible refine (HJ.out _).mono ?_
      rintro e w4 ⟨rfl, rfl⟩
      rw [show jumpsB 4 = false by decide]
      go_wp2_with fail)
   | (with_reducible refine (HT.out _ _ _ _ _ (by first | exact HTY.out | simp) _).mono ?_
      rintro e w4 ⟨⟨b, rfl⟩, hb4⟩
      have HB4 := Hd (bl_trans HB3.out hb4)
      have HX4 := Hd (HX3.out.below hb4)
      have HA4 := Hd (HA.out.below hb4)
      clear hb4
      clear e0 e1 e2 e3 e4 e5 e6 a0 a1 a2 a3 a4 a6
      have e0 := HX4.out.cell 0
      have e1 := HX4.out.cell 1
      have e2 := HX4.out.cell 2
      have e3 := HX4.out.cell 3
      have e4 := HX4.out.cell 4
      have e5 := HX4.out.cell 5
      have e6 := HX4.out.lt
      have a0 := HA4.out.cell 0
      have a1 := HA4.out.cell 1
      have a2 := HA4.out.cell 2
      have a3 := HA4.out.cell 3
      have a4 := HA4.out.cell 4
      have a6 := HA4.out.lt
      cases b <;> (go_wp2_with fail; go_ret; exact ⟨⟨_, rfl⟩, HB4.out⟩))
   | (go_ret; exact ⟨⟨_, rfl⟩, HB3.out⟩)
theorem rins5 (ia ib : Int) (ty cl nm : List UInt8) (hty : ty.length ≤ 8388608) (w : World) : Calls Tryz.prog 224 #[insV ⟨5, ia, ib, ty, cl, nm⟩] w (SomeE w) := by
 have HJ := Hd (fun W => rjumps_calls 5 W)
 have HW := Hd (fun W => rword32_calls ia W)
 have HT := Hd (fun (ja jb : Int) (ty2 cl2 nm2 : List UInt8) (h2 : ty2.length ≤ 8388608) W => show Calls Tryz.prog 252 #[.agg #[.int .i64 5, .int .i64 ja, .int .i64 jb, .string ⟨⟨ty2⟩⟩, .string ⟨⟨cl2⟩⟩, .string ⟨⟨nm2⟩⟩]] W (SomeB W) from rtypeMay_calls ⟨5, ja, jb, ty2, cl2, nm2⟩ h2 W)
 have HTY := Hd hty
 have HC := Hd (fun W => rname_calls cl W)
 have HN := Hd (fun W => rname_calls nm W)
 obtain ⟨w1, hw1⟩ : ∃ w1, w1 = w.alloc (.cells (insArr ⟨5, ia, ib, ty, cl, nm⟩) 40) := ⟨_, rfl⟩
 have HX := Hd (show Blk w1 w.heap.size 40 (insArr ⟨5, ia, ib, ty, cl, nm⟩) by rw [hw1]; exact blk_new _ _ _ _ rfl)
 have HB1 := Hd (show Below w.heap.size w w1 by rw [hw1]; exact bl_alloc (Below.refl _ _) _)
 unfold insArr at hw1 HX
 unfold insV
 clear hty
 go_enter Tryz.func224, Tryz.ntmps224
 go_upto_region 1 with fail
 rw [← hw1]
 clear hw1
 have e0 := HX.out.cell 0
 have e6 := HX.out.lt
 go_wp2_with fail
 refine (rneeds5 _).mono ?_
 rintro e w2 ⟨rfl, hb2⟩
 obtain ⟨w3, hw3⟩ : ∃ w3, w3 = w2.alloc (.cells #[.bool true, .bool false, .bool false, .bool false, .bool false] 306) := ⟨_, rfl⟩
 have hb3 : Below w2.heap.size w2 w3 := by rw [hw3]; exact bl_alloc (Below.refl _ _) _
 have HA := Hd (show Blk w3 w2.heap.size 306 #[.bool true, .bool false, .bool false, .bool false, .bool false] by rw [hw3]; exact blk_new _ _ _ _ rfl)
 have HB3 := Hd (bl_trans HB1.out (bl_trans hb2 hb3))
 have HX3 := Hd (HX.out.below (bl_trans hb2 hb3))
 clear hb2 e0 e6 hb3
 go_upto_region 4 with fail
 rw [← hw3]
 clear hw3
 have e0 := HX3.out.cell 0
 have e1 := HX3.out.cell 1
 have e2 := HX3.out.cell 2
 have e3 := HX3.out.cell 3
 have e4 := HX3.out.cell 4
 have e5 := HX3.out.cell 5
 have e6 := HX3.out.lt
 have a0 := HA.out.cell 0
 have a1 := HA.out.cell 1
 have a2 := HA.out.cell 2
 have a3 := HA.out.cell 3
 have a4 := HA.out.cell 4
 have a6 := HA.out.lt
 go_wp2_with fail
 repeat' first
   | (with_reducible refine (HJ.out _).mono ?_
      rintro e w4 ⟨rfl, rfl⟩
      rw [show jumpsB 5 = false by decide]
      go_wp2_with fail)
   | (with_reducible refine (HT.out _ _ _ _ _ (by first | exact HTY.out | simp) _).mono ?_
      rintro e w4 ⟨⟨b, rfl⟩, hb4⟩
      have HB4 := Hd (bl_trans HB3.out hb4)
      have HX4 := Hd (HX3.out.below hb4)
      have HA4 := Hd (HA.out.below hb4)
      clear hb4
      clear e0 e1 e2 e3 e4 e5 e6 a0 a1 a2 a3 a4 a6
      have e0 := HX4.out.cell 0
      have e1 := HX4.out.cell 1
      have e2 := HX4.out.cell 2
      have e3 := HX4.out.cell 3
      have e4 := HX4.out.cell 4
      have e5 := HX4.out.cell 5
      have e6 := HX4.out.lt
      have a0 := HA4.out.cell 0
      have a1 := HA4.out.cell 1
      have a2 := HA4.out.cell 2
      have a3 := HA4.out.cell 3
      have a4 := HA4.out.cell 4
      have a6 := HA4.out.lt
      cases b <;> (go_wp2_with fail; go_ret; exact ⟨⟨_, rfl⟩, HB4.out⟩))
   | (go_ret; exact ⟨⟨_, rfl⟩, HB3.out⟩)
theorem rins6 (ia ib : Int) (ty cl nm : List UInt8) (hty : ty.length ≤ 8388608) (w : World) : Calls Tryz.prog 224 #[insV ⟨6, ia, ib, ty, cl, nm⟩] w (SomeE w) := by
 have HJ := Hd (fun W => rjumps_calls 6 W)
 have HW := Hd (fun W => rword32_calls ia W)
 have HT := Hd (fun (ja jb : Int) (ty2 cl2 nm2 : List UInt8) (h2 : ty2.length ≤ 8388608) W => show Calls Tryz.prog 252 #[.agg #[.int .i64 6, .int .i64 ja, .int .i64 jb, .string ⟨⟨ty2⟩⟩, .string ⟨⟨cl2⟩⟩, .string ⟨⟨nm2⟩⟩]] W (SomeB W) from rtypeMay_calls ⟨6, ja, jb, ty2, cl2, nm2⟩ h2 W)
 have HTY := Hd hty
 have HC := Hd (fun W => rname_calls cl W)
 have HN := Hd (fun W => rname_calls nm W)
 obtain ⟨w1, hw1⟩ : ∃ w1, w1 = w.alloc (.cells (insArr ⟨6, ia, ib, ty, cl, nm⟩) 40) := ⟨_, rfl⟩
 have HX := Hd (show Blk w1 w.heap.size 40 (insArr ⟨6, ia, ib, ty, cl, nm⟩) by rw [hw1]; exact blk_new _ _ _ _ rfl)
 have HB1 := Hd (show Below w.heap.size w w1 by rw [hw1]; exact bl_alloc (Below.refl _ _) _)
 unfold insArr at hw1 HX
 unfold insV
 clear hty
 go_enter Tryz.func224, Tryz.ntmps224
 go_upto_region 1 with fail
 rw [← hw1]
 clear hw1
 have e0 := HX.out.cell 0
 have e6 := HX.out.lt
 go_wp2_with fail
 refine (rneeds6 _).mono ?_
 rintro e w2 ⟨rfl, hb2⟩
 obtain ⟨w3, hw3⟩ : ∃ w3, w3 = w2.alloc (.cells #[.bool false, .bool false, .bool false, .bool false, .bool false] 306) := ⟨_, rfl⟩
 have hb3 : Below w2.heap.size w2 w3 := by rw [hw3]; exact bl_alloc (Below.refl _ _) _
 have HA := Hd (show Blk w3 w2.heap.size 306 #[.bool false, .bool false, .bool false, .bool false, .bool false] by rw [hw3]; exact blk_new _ _ _ _ rfl)
 have HB3 := Hd (bl_trans HB1.out (bl_trans hb2 hb3))
 have HX3 := Hd (HX.out.below (bl_trans hb2 hb3))
 clear hb2 e0 e6 hb3
 go_upto_region 4 with fail
 rw [← hw3]
 clear hw3
 have e0 := HX3.out.cell 0
 have e1 := HX3.out.cell 1
 have e2 := HX3.out.cell 2
 have e3 := HX3.out.cell 3
 have e4 := HX3.out.cell 4
 have e5 := HX3.out.cell 5
 have e6 := HX3.out.lt
 have a0 := HA.out.cell 0
 have a1 := HA.out.cell 1
 have a2 := HA.out.cell 2
 have a3 := HA.out.cell 3
 have a4 := HA.out.cell 4
 have a6 := HA.out.lt
 go_wp2_with fail
 repeat' first
   | (with_reducible refine (HJ.out _).mono ?_
      rintro e w4 ⟨rfl, rfl⟩
      rw [show jumpsB 6 = false by decide]
      go_wp2_with fail)
   | (with_reducible refine (HT.out _ _ _ _ _ (by first | exact HTY.out | simp) _).mono ?_
      rintro e w4 ⟨⟨b, rfl⟩, hb4⟩
      have HB4 := Hd (bl_trans HB3.out hb4)
      have HX4 := Hd (HX3.out.below hb4)
      have HA4 := Hd (HA.out.below hb4)
      clear hb4
      clear e0 e1 e2 e3 e4 e5 e6 a0 a1 a2 a3 a4 a6
      have e0 := HX4.out.cell 0
      have e1 := HX4.out.cell 1
      have e2 := HX4.out.cell 2
      have e3 := HX4.out.cell 3
      have e4 := HX4.out.cell 4
      have e5 := HX4.out.cell 5
      have e6 := HX4.out.lt
      have a0 := HA4.out.cell 0
      have a1 := HA4.out.cell 1
      have a2 := HA4.out.cell 2
      have a3 := HA4.out.cell 3
      have a4 := HA4.out.cell 4
      have a6 := HA4.out.lt
      cases b <;> (go_wp2_with fail; go_ret; exact ⟨⟨_, rfl⟩, HB4.out⟩))
   | (go_ret; exact ⟨⟨_, rfl⟩, HB3.out⟩)
theorem rins7 (ia ib : Int) (ty cl nm : List UInt8) (hty : ty.length ≤ 8388608) (w : World) : Calls Tryz.prog 224 #[insV ⟨7, ia, ib, ty, cl, nm⟩] w (SomeE w) := by
 have HJ := Hd (fun W => rjumps_calls 7 W)
 have HW := Hd (fun W => rword32_calls ia W)
 have HT := Hd (fun (ja jb : Int) (ty2 cl2 nm2 : List UInt8) (h2 : ty2.length ≤ 8388608) W => show Calls Tryz.prog 252 #[.agg #[.int .i64 7, .int .i64 ja, .int .i64 jb, .string ⟨⟨ty2⟩⟩, .string ⟨⟨cl2⟩⟩, .string ⟨⟨nm2⟩⟩]] W (SomeB W) from rtypeMay_calls ⟨7, ja, jb, ty2, cl2, nm2⟩ h2 W)
 have HTY := Hd hty
 have HC := Hd (fun W => rname_calls cl W)
 have HN := Hd (fun W => rname_calls nm W)
 obtain ⟨w1, hw1⟩ : ∃ w1, w1 = w.alloc (.cells (insArr ⟨7, ia, ib, ty, cl, nm⟩) 40) := ⟨_, rfl⟩
 have HX := Hd (show Blk w1 w.heap.size 40 (insArr ⟨7, ia, ib, ty, cl, nm⟩) by rw [hw1]; exact blk_new _ _ _ _ rfl)
 have HB1 := Hd (show Below w.heap.size w w1 by rw [hw1]; exact bl_alloc (Below.refl _ _) _)
 unfold insArr at hw1 HX
 unfold insV
 clear hty
 go_enter Tryz.func224, Tryz.ntmps224
 go_upto_region 1 with fail
 rw [← hw1]
 clear hw1
 have e0 := HX.out.cell 0
 have e6 := HX.out.lt
 go_wp2_with fail
 refine (rneeds7 _).mono ?_
 rintro e w2 ⟨rfl, hb2⟩
 obtain ⟨w3, hw3⟩ : ∃ w3, w3 = w2.alloc (.cells #[.bool false, .bool false, .bool false, .bool false, .bool false] 306) := ⟨_, rfl⟩
 have hb3 : Below w2.heap.size w2 w3 := by rw [hw3]; exact bl_alloc (Below.refl _ _) _
 have HA := Hd (show Blk w3 w2.heap.size 306 #[.bool false, .bool false, .bool false, .bool false, .bool false] by rw [hw3]; exact blk_new _ _ _ _ rfl)
 have HB3 := Hd (bl_trans HB1.out (bl_trans hb2 hb3))
 have HX3 := Hd (HX.out.below (bl_trans hb2 hb3))
 clear hb2 e0 e6 hb3
 go_upto_region 4 with fail
 rw [← hw3]
 clear hw3
 have e0 := HX3.out.cell 0
 have e1 := HX3.out.cell 1
 have e2 := HX3.out.cell 2
 have e3 := HX3.out.cell 3
 have e4 := HX3.out.cell 4
 have e5 := HX3.out.cell 5
 have e6 := HX3.out.lt
 have a0 := HA.out.cell 0
 have a1 := HA.out.cell 1
 have a2 := HA.out.cell 2
 have a3 := HA.out.cell 3
 have a4 := HA.out.cell 4
 have a6 := HA.out.lt
 go_wp2_with fail
 repeat' first
   | (with_reducible refine (HJ.out _).mono ?_
      rintro e w4 ⟨rfl, rfl⟩
      rw [show jumpsB 7 = false by decide]
      go_wp2_with fail)
   | (with_reducible refine (HT.out _ _ _ _ _ (by first | exact HTY.out | simp) _).mono ?_
      rintro e w4 ⟨⟨b, rfl⟩, hb4⟩
      have HB4 := Hd (bl_trans HB3.out hb4)
      have HX4 := Hd (HX3.out.below hb4)
      have HA4 := Hd (HA.out.below hb4)
      clear hb4
      clear e0 e1 e2 e3 e4 e5 e6 a0 a1 a2 a3 a4 a6
      have e0 := HX4.out.cell 0
      have e1 := HX4.out.cell 1
      have e2 := HX4.out.cell 2
      have e3 := HX4.out.cell 3
      have e4 := HX4.out.cell 4
      have e5 := HX4.out.cell 5
      have e6 := HX4.out.lt
      have a0 := HA4.out.cell 0
      have a1 := HA4.out.cell 1
      have a2 := HA4.out.cell 2
      have a3 := HA4.out.cell 3
      have a4 := HA4.out.cell 4
      have a6 := HA4.out.lt
      cases b <;> (go_wp2_with fail; go_ret; exact ⟨⟨_, rfl⟩, HB4.out⟩))
   | (go_ret; exact ⟨⟨_, rfl⟩, HB3.out⟩)
end Go.Proofs.YtddbnboicmaooaaGreatDoor
