import Derived.Test.YtddbnboicmaooaaGreatDoorRe2
namespace Go.Proofs.YtddbnboicmaooaaGreatDoor
set_option maxRecDepth 100000
set_option maxHeartbeats 16000000
set_option linter.unusedVariables false
set_option linter.unusedSimpArgs false
open Go.RowKit Go.Shelf Go.Lib
theorem rins21 (ia ib : Int) (ty cl nm : List UInt8) (hty : ty.length ≤ 8388608) (w : World) : Calls Tryz.prog 224 #[insV ⟨21, ia, ib, ty, cl, nm⟩] w (SomeE w) := by
 have HJ := Hd (fun W => rjumps_calls 21 W)
 have HW := Hd (fun W => rword32_calls ia W)
 have HT := Hd (fun (ja jb : Int) (ty2 cl2 nm2 : List UInt8) (h2 : ty2.length ≤ 8388608) W => show Calls Tryz.prog 252 #[.agg #[.int .i64 21, .int .i64 ja, .int .i64 jb, .string ⟨⟨ty2⟩⟩, .string ⟨⟨cl2⟩⟩, .string ⟨⟨nm2⟩⟩]] W (SomeB W) from rtypeMay_calls ⟨21, ja, jb, ty2, cl2, nm2⟩ h2 W)
 have HTY := Hd hty
 have HC := Hd (fun W => rname_calls cl W)
 have HN := Hd (fun W => rname_calls nm W)
 obtain ⟨w1, hw1⟩ : ∃ w1, w1 = w.alloc (.cells (insArr ⟨21, ia, ib, ty, cl, nm⟩) 40) := ⟨_, rfl⟩
 have HX := Hd (show Blk w1 w.heap.size 40 (insArr ⟨21, ia, ib, ty, cl, nm⟩) by rw [hw1]; exact blk_new _ _ _ _ rfl)
 have HB1 := Hd (show Below w.heap.size w w1 by rw [hw1]; exact bl_alloc (Below.refl _ _) _)
 unfold insArr at hw1 HX
 unfold insV
 clear hty
 go_enter Tryz.func224, Tryz.ntmps224
 go_upto_region 1 with fail
 rw [← hw1]
 clear hw1
 have e0 := HX.out.cell 0
 have e6 := HX.out.lt
 go_wp2_with fail
 refine (rneeds21 _).mono ?_
 rintro e w2 ⟨rfl, hb2⟩
 obtain ⟨w3, hw3⟩ : ∃ w3, w3 = w2.alloc (.cells #[.bool false, .bool false, .bool true, .bool false, .bool false] 306) := ⟨_, rfl⟩
 have hb3 : Below w2.heap.size w2 w3 := by rw [hw3]; exact bl_alloc (Below.refl _ _) _
 have HA := Hd (show Blk w3 w2.heap.size 306 #[.bool false, .bool false, .bool true, .bool false, .bool false] by rw [hw3]; exact blk_new _ _ _ _ rfl)
 have HB3 := Hd (bl_trans HB1.out (bl_trans hb2 hb3))
 have HX3 := Hd (HX.out.below (bl_trans hb2 hb3))
 clear hb2 e0 e6 hb3
 go_upto_region 4 with fail
 rw [← hw3]
 clear hw3
 have e0 := HX3.out.cell 0
 have e1 := HX3.out.cell 1
 have e2 := HX3.out.cell 2
 have e3 := HX3.out.cell 3
 have e4 := HX3.out.cell 4
 have e5 := HX3.out.cell 5
 have e6 := HX3.out.lt
 have a0 := HA.out.cell 0
 have a1 := HA.out.cell 1
 have a2 := HA.out.cell 2
 have a3 := HA.out.cell 3
 have a4 := HA.out.cell 4
 have a6 := HA.out.lt
 go_wp2_with fail
 repeat' first
   | (with_reducible refine (HJ.out _).mono ?_
      rintro e w4 ⟨rfl, rfl⟩
      rw [show jumpsB 21 = false by decide]
      go_wp2_with fail)
   | (with_reducible refine (HT.out _ _ _ _ _ (by first | exact HTY.out | simp) _).mono ?_
      rintro e w4 ⟨⟨b, rfl⟩, hb4⟩
      have HB4 := Hd (bl_trans HB3.out hb4)
      have HX4 := Hd (HX3.out.below hb4)
      have HA4 := Hd (HA.out.below hb4)
      clear hb4
      clear e0 e1 e2 e3 e4 e5 e6 a0 a1 a2 a3 a4 a6
      have e0 := HX4.out.cell 0
      have e1 := HX4.out.cell 1
      have e2 := HX4.out.cell 2
      have e3 := HX4.out.cell 3
      have e4 := HX4.out.cell 4
      have e5 := HX4.out.cell 5
      have e6 := HX4.out.lt
      have a0 := HA4.out.cell 0
      have a1 := HA4.out.cell 1
      have a2 := HA4.out.cell 2
      have a3 := HA4.out.cell 3
      have a4 := HA4.out.cell 4
      have a6 := HA4.out.lt
      cases b <;> (go_wp2_with fail; go_ret; exact ⟨⟨_, rfl⟩, HB4.out⟩))
   | (go_ret; exact ⟨⟨_, rfl⟩, HB3.out⟩)
theorem rins22 (ia ib : Int) (ty cl nm : List UInt8) (hty : ty.length ≤ 8388608) (w : World) : Calls Tryz.prog 224 #[insV ⟨22, ia, ib, ty, cl, nm⟩] w (SomeE w) := by
 have HJ := Hd (fun W => rjumps_calls 22 W)
 have HW := Hd (fun W => rword32_calls ia W)
 have HT := Hd (fun (ja jb : Int) (ty2 cl2 nm2 : List UInt8) (h2 : ty2.length ≤ 8388608) W => show Calls Tryz.prog 252 #[.agg #[.int .i64 22, .int .i64 ja, .int .i64 jb, .string ⟨⟨ty2⟩⟩, .string ⟨⟨cl2⟩⟩, .string ⟨⟨nm2⟩⟩]] W (SomeB W) from rtypeMay_calls ⟨22, ja, jb, ty2, cl2, nm2⟩ h2 W)
 have HTY := Hd hty
 have HC := Hd (fun W => rname_calls cl W)
 have HN := Hd (fun W => rname_calls nm W)
 obtain ⟨w1, hw1⟩ : ∃ w1, w1 = w.alloc (.cells (insArr ⟨22, ia, ib, ty, cl, nm⟩) 40) := ⟨_, rfl⟩
 have HX := Hd (show Blk w1 w.heap.size 40 (insArr ⟨22, ia, ib, ty, cl, nm⟩) by rw [hw1]; exact blk_new _ _ _ _ rfl)
 have HB1 := Hd (show Below w.heap.size w w1 by rw [hw1]; exact bl_alloc (Below.refl _ _) _)
 unfold insArr at hw1 HX
 unfold insV
 clear hty
 go_enter Tryz.func224, Tryz.ntmps224
 go_upto_region 1 with fail
 rw [← hw1]
 clear hw1
 have e0 := HX.out.cell 0
 have e6 := HX.out.lt
 go_wp2_with fail
 refine (rneeds22 _).mono ?_
 rintro e w2 ⟨rfl, hb2⟩
 obtain ⟨w3, hw3⟩ : ∃ w3, w3 = w2.alloc (.cells #[.bool false, .bool false, .bool true, .bool false, .bool false] 306) := ⟨_, rfl⟩
 have hb3 : Below w2.heap.size w2 w3 := by rw [hw3]; exact bl_alloc (Below.refl _ _) _
 have HA := Hd (show Blk w3 w2.heap.size 306 #[.bool false, .bool false, .bool true, .bool false, .bool false] by rw [hw3]; exact blk_new _ _ _ _ rfl)
 have HB3 := Hd (bl_trans HB1.out (bl_trans hb2 hb3))
 have HX3 := Hd (HX.out.below (bl_trans hb2 hb3))
 clear hb2 e0 e6 hb3
 go_upto_region 4 with fail
 rw [← hw3]
 clear hw3
 have e0 := HX3.out.cell 0
 have e1 := HX3.out.cell 1
 have e2 := HX3.out.cell 2
 have e3 := HX3.out.cell 3
 have e4 := HX3.out.cell 4
 have e5 := HX3.out.cell 5
 have e6 := HX3.out.lt
 have a0 := HA.out.cell 0
 have a1 := HA.out.cell 1
 have a2 := HA.out.cell 2
 have a3 := HA.out.cell 3
 have a4 := HA.out.cell 4
 have a6 := HA.out.lt
 go_wp2_with fail
 repeat' first
   | (with_reducible refine (HJ.out _).mono ?_
      rintro e w4 ⟨rfl, rfl⟩
      rw [show jumpsB 22 = false by decide]
      go_wp2_with fail)
   | (with_reducible refine (HT.out _ _ _ _ _ (by first | exact HTY.out | simp) _).mono ?_
      rintro e w4 ⟨⟨b, rfl⟩, hb4⟩
      have HB4 := Hd (bl_trans HB3.out hb4)
      have HX4 := Hd (HX3.out.below hb4)
      have HA4 := Hd (HA.out.below hb4)
      clear hb4
      clear e0 e1 e2 e3 e4 e5 e6 a0 a1 a2 a3 a4 a6
      have e0 := HX4.out.cell 0
      have e1 := HX4.out.cell 1
      have e2 := HX4.out.cell 2
      have e3 := HX4.out.cell 3
      have e4 := HX4.out.cell 4
      have e5 := HX4.out.cell 5
      have e6 := HX4.out.lt
      have a0 := HA4.out.cell 0
      have a1 := HA4.out.cell 1
      have a2 := HA4.out.cell 2
      have a3 := HA4.out.cell 3
      have a4 := HA4.out.cell 4
      have a6 := HA4.out.lt
      cases b <;> (go_wp2_with fail; go_ret; exact ⟨⟨_, rfl⟩, HB4.out⟩))
   | (go_ret; exact ⟨⟨_, rfl⟩, HB3.out⟩)
theorem rins23 (ia ib : Int) (ty cl nm : List UInt8) (hty : ty.length ≤ 8388608) (w : World) : Calls Tryz.prog 224 #[insV ⟨23, ia, ib, ty, cl, nm⟩] w (SomeE w) := by
 have HJ := Hd (fun W => rjumps_calls 23 W)
 have HW := Hd (fun W => rword32_calls ia W)
 have HT := Hd (fun (ja jb : Int) (ty2 cl2 nm2 : List UInt8) (h2 : ty2.length ≤ 8388608) W => show Calls Tryz.prog 252 #[.agg #[.int .i64 23, .int .i64 ja, .int .i64 jb, .string ⟨⟨ty2⟩⟩, .string ⟨⟨cl2⟩⟩, .string ⟨⟨nm2⟩⟩]] W (SomeB W) from rtypeMay_calls ⟨23, ja, jb, ty2, cl2, nm2⟩ h2 W)
 have HTY := Hd hty
 have HC := Hd (fun W => rname_calls cl W)
 have HN := Hd (fun W => rname_calls nm W)
 obtain ⟨w1, hw1⟩ : ∃ w1, w1 = w.alloc (.cells (insArr ⟨23, ia, ib, ty, cl, nm⟩) 40) := ⟨_, rfl⟩
 have HX := Hd (show Blk w1 w.heap.size 40 (insArr ⟨23, ia, ib, ty, cl, nm⟩) by rw [hw1]; exact blk_new _ _ _ _ rfl)
 have HB1 := Hd (show Below w.heap.size w w1 by rw [hw1]; exact bl_alloc (Below.refl _ _) _)
 unfold insArr at hw1 HX
 unfold insV
 clear hty
 go_enter Tryz.func224, Tryz.ntmps224
 go_upto_region 1 with fail
 rw [← hw1]
 clear hw1
 have e0 := HX.out.cell 0
 have e6 := HX.out.lt
 go_wp2_with fail
 refine (rneeds23 _).mono ?_
 rintro e w2 ⟨rfl, hb2⟩
 obtain ⟨w3, hw3⟩ : ∃ w3, w3 = w2.alloc (.cells #[.bool false, .bool false, .bool true, .bool false, .bool false] 306) := ⟨_, rfl⟩
 have hb3 : Below w2.heap.size w2 w3 := by rw [hw3]; exact bl_alloc (Below.refl _ _) _
 have HA := Hd (show Blk w3 w2.heap.size 306 #[.bool false, .bool false, .bool true, .bool false, .bool false] by rw [hw3]; exact blk_new _ _ _ _ rfl)
 have HB3 := Hd (bl_trans HB1.out (bl_trans hb2 hb3))
 have HX3 := Hd (HX.out.below (bl_trans hb2 hb3))
 clear hb2 e0 e6 hb3
 go_upto_region 4 with fail
 rw [← hw3]
 clear hw3
 have e0 := HX3.out.cell 0
 have e1 := HX3.out.cell 1
 have e2 := HX3.out.cell 2
 have e3 := HX3.out.cell 3
 have e4 := HX3.out.cell 4
 have e5 := HX3.out.cell 5
 have e6 := HX3.out.lt
 have a0 := HA.out.cell 0
 have a1 := HA.out.cell 1
 have a2 := HA.out.cell 2
 have a3 := HA.out.cell 3
 have a4 := HA.out.cell 4
 have a6 := HA.out.lt
 go_wp2_with fail
 repeat' first
   | (with_reducible refine (HJ.out _).mono ?_
      rintro e w4 ⟨rfl, rfl⟩
      rw [show jumpsB 23 = false by decide]
      go_wp2_with fail)
   | (with_reducible refine (HT.out _ _ _ _ _ (by first | exact HTY.out | simp) _).mono ?_
      rintro e w4 ⟨⟨b, rfl⟩, hb4⟩
      have HB4 := Hd (bl_trans HB3.out hb4)
      have HX4 := Hd (HX3.out.below hb4)
      have HA4 := Hd (HA.out.below hb4)
      clear hb4
      clear e0 e1 e2 e3 e4 e5 e6 a0 a1 a2 a3 a4 a6
      have e0 := HX4.out.cell 0
      have e1 := HX4.out.cell 1
      have e2 := HX4.out.cell 2
      have e3 := HX4.out.cell 3
      have e4 := HX4.out.cell 4
      have e5 := HX4.out.cell 5
      have e6 := HX4.out.lt
      have a0 := HA4.out.cell 0
      have a1 := HA4.out.cell 1
      have a2 := HA4.out.cell 2
      have a3 := HA4.out.cell 3
      have a4 := HA4.out.cell 4
      have a6 := HA4.out.lt
      cases b <;> (go_wp2_with fail; go_ret; exact ⟨⟨_, rfl⟩, HB4.out⟩))
   | (go_ret; exact ⟨⟨_, rfl⟩, HB3.out⟩)
theorem rins24 (ia ib : Int) (ty cl nm : List UInt8) (hty : ty.length ≤ 8388608) (w : World) : Calls Tryz.prog 224 #[insV ⟨24, ia, ib, ty, cl, nm⟩] w (SomeE w) := by
 have HJ := Hd (fun W => rjumps_calls 24 W)
 have HW := Hd (fun W => rword32_calls ia W)
 have HT := Hd (fun (ja jb : Int) (ty2 cl2 nm2 : List UInt8) (h2 : ty2.length ≤ 8388608) W => show Calls Tryz.prog 252 #[.agg #[.int .i64 24, .int .i64 ja, .int .i64 jb, .string ⟨⟨ty2⟩⟩, .string ⟨⟨cl2⟩⟩, .string ⟨⟨nm2⟩⟩]] W (SomeB W) from rtypeMay_calls ⟨24, ja, jb, ty2, cl2, nm2⟩ h2 W)
 have HTY := Hd hty
 have HC := Hd (fun W => rname_calls cl W)
 have HN := Hd (fun W => rname_calls nm W)
 obtain ⟨w1, hw1⟩ : ∃ w1, w1 = w.alloc (.cells (insArr ⟨24, ia, ib, ty, cl, nm⟩) 40) := ⟨_, rfl⟩
 have HX := Hd (show Blk w1 w.heap.size 40 (insArr ⟨24, ia, ib, ty, cl, nm⟩) by rw [hw1]; exact blk_new _ _ _ _ rfl)
 have HB1 := Hd (show Below w.heap.size w w1 by rw [hw1]; exact bl_alloc (Below.refl _ _) _)
 unfold insArr at hw1 HX
 unfold insV
 clear hty
 go_enter Tryz.func224, Tryz.ntmps224
 go_upto_region 1 with fail
 rw [← hw1]
 clear hw1
 have e0 := HX.out.cell 0
 have e6 := HX.out.lt
 go_wp2_with fail
 refine (rneeds24 _).mono ?_
 rintro e w2 ⟨rfl, hb2⟩
 obtain ⟨w3, hw3⟩ : ∃ w3, w3 = w2.alloc (.cells #[.bool false, .bool false, .bool true, .bool true, .bool true] 306) := ⟨_, rfl⟩
 have hb3 : Below w2.heap.size w2 w3 := by rw [hw3]; exact bl_alloc (Below.refl _ _) _
 have HA := Hd (show Blk w3 w2.heap.size 306 #[.bool false, .bool false, .bool true, .bool true, .bool true] by rw [hw3]; exact blk_new _ _ _ _ rfl)
 have HB3 := Hd (bl_trans HB1.out (bl_trans hb2 hb3))
 have HX3 := Hd (HX.out.below (bl_trans hb2 hb3))
 clear hb2 e0 e6 hb3
 go_upto_region 4 with fail
 rw [← hw3]
 clear hw3
 have e0 := HX3.out.cell 0
 have e1 := HX3.out.cell 1
 have e2 := HX3.out.cell 2
 have e3 := HX3.out.cell 3
 have e4 := HX3.out.cell 4
 have e5 := HX3.out.cell 5
 have e6 := HX3.out.lt
 have a0 := HA.out.cell 0
 have a1 := HA.out.cell 1
 have a2 := HA.out.cell 2
 have a3 := HA.out.cell 3
 have a4 := HA.out.cell 4
 have a6 := HA.out.lt
 go_wp2_with fail
 repeat' first
   | (with_reducible refine (HJ.out _).mono ?_
      rintro e w4 ⟨rfl, rfl⟩
      rw [show jumpsB 24 = false by decide]
      go_wp2_with fail)
   | (with_reducible refine (HT.out _ _ _ _ _ (by first | exact HTY.out | simp) _).mono ?_
      rintro e w4 ⟨⟨b, rfl⟩, hb4⟩
      have HB4 := Hd (bl_trans HB3.out hb4)
      have HX4 := Hd (HX3.out.below hb4)
      have HA4 := Hd (HA.out.below hb4)
      clear hb4
      clear e0 e1 e2 e3 e4 e5 e6 a0 a1 a2 a3 a4 a6
      have e0 := HX4.out.cell 0
      have e1 := HX4.out.cell 1
      have e2 := HX4.out.cell 2
      have e3 := HX4.out.cell 3
      have e4 := HX4.out.cell 4
      have e5 := HX4.out.cell 5
      have e6 := HX4.out.lt
      have a0 := HA4.out.cell 0
      have a1 := HA4.out.cell 1
      have a2 := HA4.out.cell 2
      have a3 := HA4.out.cell 3
      have a4 := HA4.out.cell 4
      have a6 := HA4.out.lt
      cases b with
      | false =>
        go_wp2_with fail
        go_ret
        exact ⟨⟨_, rfl⟩, HB4.out⟩
      | true =>
        go_wp2_with fail
        refine (HC.out _).mono ?_
        rintro e w5 ⟨rfl, hb5⟩
        have HB5 := Hd (bl_trans HB4.out hb5)
        have HX5 := Hd (HX4.out.below hb5)
        have HA5 := Hd (HA4.out.below hb5)
        clear e0 e1 e2 e3 e4 e5 e6 a0 a1 a2 a3 a4 a6
        have e0 := HX5.out.cell 0
        have e1 := HX5.out.cell 1
        have e2 := HX5.out.cell 2
        have e3 := HX5.out.cell 3
        have e4 := HX5.out.cell 4
        have e5 := HX5.out.cell 5
        have e6 := HX5.out.lt
        have a0 := HA5.out.cell 0
        have a1 := HA5.out.cell 1
        have a2 := HA5.out.cell 2
        have a3 := HA5.out.cell 3
        have a4 := HA5.out.cell 4
        have a6 := HA5.out.lt
        cases nameOk cl <;> (go_wp2_with fail; first
            | (with_reducible refine (HN.out _).mono ?_
               rintro e w6 ⟨rfl, hb6⟩
               have HB6 := Hd (bl_trans HB5.out hb6)
               clear hb6 hb5
               cases nameOk nm <;> (go_wp2_with fail; go_ret; exact ⟨⟨_, rfl⟩, HB6.out⟩))
            | (go_ret; exact ⟨⟨_, rfl⟩, HB5.out⟩)))
   | (go_ret; exact ⟨⟨_, rfl⟩, HB3.out⟩)
theorem rins25 (ia ib : Int) (ty cl nm : List UInt8) (hty : ty.length ≤ 8388608) (w : World) : Calls Tryz.prog 224 #[insV ⟨25, ia, ib, ty, cl, nm⟩] w (SomeE w) := by
 have HJ := Hd (fun W => rjumps_calls 25 W)
 have HW := Hd (fun W => rword32_calls ia W)
 have HT := Hd (fun (ja jb : Int) (ty2 cl2 nm2 : List UInt8) (h2 : ty2.length ≤ 8388608) W => show Calls Tryz.prog 252 #[.agg #[.int .i64 25, .int .i64 ja, .int .i64 jb, .string ⟨⟨ty2⟩⟩, .string ⟨⟨cl2⟩⟩, .string ⟨⟨nm2⟩⟩]] W (SomeB W) from rtypeMay_calls ⟨25, ja, jb, ty2, cl2, nm2⟩ h2 W)
 have HTY := Hd hty
 have HC := Hd (fun W => rname_calls cl W)
 have HN := Hd (fun W => rname_calls nm W)
 obtain ⟨w1, hw1⟩ : ∃ w1, w1 = w.alloc (.cells (insArr ⟨25, ia, ib, ty, cl, nm⟩) 40) := ⟨_, rfl⟩
 have HX := Hd (show Blk w1 w.heap.size 40 (insArr ⟨25, ia, ib, ty, cl, nm⟩) by rw [hw1]; exact blk_new _ _ _ _ rfl)
 have HB1 := Hd (show Below w.heap.size w w1 by rw [hw1]; exact bl_alloc (Below.refl _ _) _)
 unfold insArr at hw1 HX
 unfold insV
 clear hty
 go_enter Tryz.func224, Tryz.ntmps224
 go_upto_region 1 with fail
 rw [← hw1]
 clear hw1
 have e0 := HX.out.cell 0
 have e6 := HX.out.lt
 go_wp2_with fail
 refine (rneeds25 _).mono ?_
 rintro e w2 ⟨rfl, hb2⟩
 obtain ⟨w3, hw3⟩ : ∃ w3, w3 = w2.alloc (.cells #[.bool false, .bool false, .bool true, .bool true, .bool true] 306) := ⟨_, rfl⟩
 have hb3 : Below w2.heap.size w2 w3 := by rw [hw3]; exact bl_alloc (Below.refl _ _) _
 have HA := Hd (show Blk w3 w2.heap.size 306 #[.bool false, .bool false, .bool true, .bool true, .bool true] by rw [hw3]; exact blk_new _ _ _ _ rfl)
 have HB3 := Hd (bl_trans HB1.out (bl_trans hb2 hb3))
 have HX3 := Hd (HX.out.below (bl_trans hb2 hb3))
 clear hb2 e0 e6 hb3
 go_upto_region 4 with fail
 rw [← hw3]
 clear hw3
 have e0 := HX3.out.cell 0
 have e1 := HX3.out.cell 1
 have e2 := HX3.out.cell 2
 have e3 := HX3.out.cell 3
 have e4 := HX3.out.cell 4
 have e5 := HX3.out.cell 5
 have e6 := HX3.out.lt
 have a0 := HA.out.cell 0
 have a1 := HA.out.cell 1
 have a2 := HA.out.cell 2
 have a3 := HA.out.cell 3
 have a4 := HA.out.cell 4
 have a6 := HA.out.lt
 go_wp2_with fail
 repeat' first
   | (with_reducible refine (HJ.out _).mono ?_
      rintro e w4 ⟨rfl, rfl⟩
      rw [show jumpsB 25 = false by decide]
      go_wp2_with fail)
   | (with_reducible refine (HT.out _ _ _ _ _ (by first | exact HTY.out | simp) _).mono ?_
      rintro e w4 ⟨⟨b, rfl⟩, hb4⟩
      have HB4 := Hd (bl_trans HB3.out hb4)
      have HX4 := Hd (HX3.out.below hb4)
      have HA4 := Hd (HA.out.below hb4)
      clear hb4
      clear e0 e1 e2 e3 e4 e5 e6 a0 a1 a2 a3 a4 a6
      have e0 := HX4.out.cell 0
      have e1 := HX4.out.cell 1
      have e2 := HX4.out.cell 2
      have e3 := HX4.out.cell 3
      have e4 := HX4.out.cell 4
      have e5 := HX4.out.cell 5
      have e6 := HX4.out.lt
      have a0 := HA4.out.cell 0
      have a1 := HA4.out.cell 1
      have a2 := HA4.out.cell 2
      have a3 := HA4.out.cell 3
      have a4 := HA4.out.cell 4
      have a6 := HA4.out.lt
      cases b with
      | false =>
        go_wp2_with fail
        go_ret
        exact ⟨⟨_, rfl⟩, HB4.out⟩
      | true =>
        go_wp2_with fail
        refine (HC.out _).mono ?_
        rintro e w5 ⟨rfl, hb5⟩
        have HB5 := Hd (bl_trans HB4.out hb5)
        have HX5 := Hd (HX4.out.below hb5)
        have HA5 := Hd (HA4.out.below hb5)
        clear e0 e1 e2 e3 e4 e5 e6 a0 a1 a2 a3 a4 a6
        have e0 := HX5.out.cell 0
        have e1 := HX5.out.cell 1
        have e2 := HX5.out.cell 2
        have e3 := HX5.out.cell 3
        have e4 := HX5.out.cell 4
        have e5 := HX5.out.cell 5
        have e6 := HX5.out.lt
        have a0 := HA5.out.cell 0
        have a1 := HA5.out.cell 1
        have a2 := HA5.out.cell 2
        have a3 := HA5.out.cell 3
        have a4 := HA5.out.cell 4
        have a6 := HA5.out.lt
        cases nameOk cl <;> (go_wp2_with fail; first
            | (with_reducible refine (HN.out _).mono ?_
               rintro e w6 ⟨rfl, hb6⟩
               have HB6 := Hd (bl_trans HB5.out hb6)
               clear hb6 hb5
               cases nameOk nm <;> (go_wp2_with fail; go_ret; exact ⟨⟨_, rfl⟩, HB6.out⟩))
            | (go_ret; exact ⟨⟨_, rfl⟩, HB5.out⟩)))
   | (go_ret; exact ⟨⟨_, rfl⟩, HB3.out⟩)
theorem rins26 (ia ib : Int) (ty cl nm : List UInt8) (hty : ty.length ≤ 8388608) (w : World) : Calls Tryz.prog 224 #[insV ⟨26, ia, ib, ty, cl, nm⟩] w (SomeE w) := by
 have HJ := Hd (fun W => rjumps_calls 26 W)
 have HW := Hd (fun W => rword32_calls ia W)
 have HT := Hd (fun (ja jb : Int) (ty2 cl2 nm2 : List UInt8) (h2 : ty2.length ≤ 8388608) W => show Calls Tryz.prog 252 #[.agg #[.int .i64 26, .int .i64 ja, .int .i64 jb, .string ⟨⟨ty2⟩⟩, .string ⟨⟨cl2⟩⟩, .string ⟨⟨nm2⟩⟩]] W (SomeB W) from rtypeMay_calls ⟨26, ja, jb, ty2, cl2, nm2⟩ h2 W)
 have HTY := Hd hty
 have HC := Hd (fun W => rname_calls cl W)
 have HN := Hd (fun W => rname_calls nm W)
 obtain ⟨w1, hw1⟩ : ∃ w1, w1 = w.alloc (.cells (insArr ⟨26, ia, ib, ty, cl, nm⟩) 40) := ⟨_, rfl⟩
 have HX := Hd (show Blk w1 w.heap.size 40 (insArr ⟨26, ia, ib, ty, cl, nm⟩) by rw [hw1]; exact blk_new _ _ _ _ rfl)
 have HB1 := Hd (show Below w.heap.size w w1 by rw [hw1]; exact bl_alloc (Below.refl _ _) _)
 unfold insArr at hw1 HX
 unfold insV
 clear hty
 go_enter Tryz.func224, Tryz.ntmps224
 go_upto_region 1 with fail
 rw [← hw1]
 clear hw1
 have e0 := HX.out.cell 0
 have e6 := HX.out.lt
 go_wp2_with fail
 refine (rneeds26 _).mono ?_
 rintro e w2 ⟨rfl, hb2⟩
 obtain ⟨w3, hw3⟩ : ∃ w3, w3 = w2.alloc (.cells #[.bool false, .bool false, .bool false, .bool false, .bool false] 306) := ⟨_, rfl⟩
 have hb3 : Below w2.heap.size w2 w3 := by rw [hw3]; exact bl_alloc (Below.refl _ _) _
 have HA := Hd (show Blk w3 w2.heap.size 306 #[.bool false, .bool false, .bool false, .bool false, .bool false] by rw [hw3]; exact blk_new _ _ _ _ rfl)
 have HB3 := Hd (bl_trans HB1.out (bl_trans hb2 hb3))
 have HX3 := Hd (HX.out.below (bl_trans hb2 hb3))
 clear hb2 e0 e6 hb3
 go_upto_region 4 with fail
 rw [← hw3]
 clear hw3
 have e0 := HX3.out.cell 0
 have e1 := HX3.out.cell 1
 have e2 := HX3.out.cell 2
 have e3 := HX3.out.cell 3
 have e4 := HX3.out.cell 4
 have e5 := HX3.out.cell 5
 have e6 := HX3.out.lt
 have a0 := HA.out.cell 0
 have a1 := HA.out.cell 1
 have a2 := HA.out.cell 2
 have a3 := HA.out.cell 3
 have a4 := HA.out.cell 4
 have a6 := HA.out.lt
 go_wp2_with fail
 repeat' first
   | (with_reducible refine (HJ.out _).mono ?_
      rintro e w4 ⟨rfl, rfl⟩
      rw [show jumpsB 26 = false by decide]
      go_wp2_with fail)
   | (with_reducible refine (HT.out _ _ _ _ _ (by first | exact HTY.out | simp) _).mono ?_
      rintro e w4 ⟨⟨b, rfl⟩, hb4⟩
      have HB4 := Hd (bl_trans HB3.out hb4)
      have HX4 := Hd (HX3.out.below hb4)
      have HA4 := Hd (HA.out.below hb4)
      clear hb4
      clear e0 e1 e2 e3 e4 e5 e6 a0 a1 a2 a3 a4 a6
      have e0 := HX4.out.cell 0
      have e1 := HX4.out.cell 1
      have e2 := HX4.out.cell 2
      have e3 := HX4.out.cell 3
      have e4 := HX4.out.cell 4
      have e5 := HX4.out.cell 5
      have e6 := HX4.out.lt
      have a0 := HA4.out.cell 0
      have a1 := HA4.out.cell 1
      have a2 := HA4.out.cell 2
      have a3 := HA4.out.cell 3
      have a4 := HA4.out.cell 4
      have a6 := HA4.out.lt
      cases b <;> (go_wp2_with fail; go_ret; exact ⟨⟨_, rfl⟩, HB4.out⟩))
   | (go_ret; exact ⟨⟨_, rfl⟩, HB3.out⟩)
theorem rins27 (ia ib : Int) (ty cl nm : List UInt8) (hty : ty.length ≤ 8388608) (w : World) : Calls Tryz.prog 224 #[insV ⟨27, ia, ib, ty, cl, nm⟩] w (SomeE w) := by
 have HJ := Hd (fun W => rjumps_calls 27 W)
 have HW := Hd (fun W => rword32_calls ia W)
 have HT := Hd (fun (ja jb : Int) (ty2 cl2 nm2 : List UInt8) (h2 : ty2.length ≤ 8388608) W => show Calls Tryz.prog 252 #[.agg #[.int .i64 27, .int .i64 ja, .int .i64 jb, .string ⟨⟨ty2⟩⟩, .string ⟨⟨cl2⟩⟩, .string ⟨⟨nm2⟩⟩]] W (SomeB W) from rtypeMay_calls ⟨27, ja, jb, ty2, cl2, nm2⟩ h2 W)
 have HTY := Hd hty
 have HC := Hd (fun W => rname_calls cl W)
 have HN := Hd (fun W => rname_calls nm W)
 obtain ⟨w1, hw1⟩ : ∃ w1, w1 = w.alloc (.cells (insArr ⟨27, ia, ib, ty, cl, nm⟩) 40) := ⟨_, rfl⟩
 have HX := Hd (show Blk w1 w.heap.size 40 (insArr ⟨27, ia, ib, ty, cl, nm⟩) by rw [hw1]; exact blk_new _ _ _ _ rfl)
 have HB1 := Hd (show Below w.heap.size w w1 by rw [hw1]; exact bl_alloc (Below.refl _ _) _)
 unfold insArr at hw1 HX
 unfold insV
 clear hty
 go_enter Tryz.func224, Tryz.ntmps224
 go_upto_region 1 with fail
 rw [← hw1]
 clear hw1
 have e0 := HX.out.cell 0
 have e6 := HX.out.lt
 go_wp2_with fail
 refine (rneeds27 _).mono ?_
 rintro e w2 ⟨rfl, hb2⟩
 obtain ⟨w3, hw3⟩ : ∃ w3, w3 = w2.alloc (.cells #[.bool false, .bool false, .bool false, .bool false, .bool false] 306) := ⟨_, rfl⟩
 have hb3 : Below w2.heap.size w2 w3 := by rw [hw3]; exact bl_alloc (Below.refl _ _) _
 have HA := Hd (show Blk w3 w2.heap.size 306 #[.bool false, .bool false, .bool false, .bool false, .bool false] by rw [hw3]; exact blk_new _ _ _ _ rfl)
 have HB3 := Hd (bl_trans HB1.out (bl_trans hb2 hb3))
 have HX3 := Hd (HX.out.below (bl_trans hb2 hb3))
 clear hb2 e0 e6 hb3
 go_upto_region 4 with fail
 rw [← hw3]
 clear hw3
 have e0 := HX3.out.cell 0
 have e1 := HX3.out.cell 1
 have e2 := HX3.out.cell 2
 have e3 := HX3.out.cell 3
 have e4 := HX3.out.cell 4
 have e5 := HX3.out.cell 5
 have e6 := HX3.out.lt
 have a0 := HA.out.cell 0
 have a1 := HA.out.cell 1
 have a2 := HA.out.cell 2
 have a3 := HA.out.cell 3
 have a4 := HA.out.cell 4
 have a6 := HA.out.lt
 go_wp2_with fail
 repeat' first
   | (with_reducible refine (HJ.out _).mono ?_
      rintro e w4 ⟨rfl, rfl⟩
      rw [show jumpsB 27 = false by decide]
      go_wp2_with fail)
   | (with_reducible refine (HT.out _ _ _ _ _ (by first | exact HTY.out | simp) _).mono ?_
      rintro e w4 ⟨⟨b, rfl⟩, hb4⟩
      have HB4 := Hd (bl_trans HB3.out hb4)
      have HX4 := Hd (HX3.out.below hb4)
      have HA4 := Hd (HA.out.below hb4)
      clear hb4
      clear e0 e1 e2 e3 e4 e5 e6 a0 a1 a2 a3 a4 a6
      have e0 := HX4.out.cell 0
      have e1 := HX4.out.cell 1
      have e2 := HX4.out.cell 2
      have e3 := HX4.out.cell 3
      have e4 := HX4.out.cell 4
      have e5 := HX4.out.cell 5
      have e6 := HX4.out.lt
      have a0 := HA4.out.cell 0
      have a1 := HA4.out.cell 1
      have a2 := HA4.out.cell 2
      have a3 := HA4.out.cell 3
      have a4 := HA4.out.cell 4
      have a6 := HA4.out.lt
      cases b <;> (go_wp2_with fail; go_ret; exact ⟨⟨_, rfl⟩, HB4.out⟩))
   | (go_ret; exact ⟨⟨_, rfl⟩, HB3.out⟩)
theorem rins28 (ia ib : Int) (ty cl nm : List UInt8) (hty : ty.length ≤ 8388608) (w : World) : Calls Tryz.prog 224 #[insV ⟨28, ia, ib, ty, cl, nm⟩] w (SomeE w) := by
 have HJ := Hd (fun W => rjumps_calls 28 W)
 have HW := Hd (fun W => rword32_calls ia W)
 have HT := Hd (fun (ja jb : Int) (ty2 cl2 nm2 : List UInt8) (h2 : ty2.length ≤ 8388608) W => show Calls Tryz.prog 252 #[.agg #[.int .i64 28, .int .i64 ja, .int .i64 jb, .string ⟨⟨ty2⟩⟩, .string ⟨⟨cl2⟩⟩, .string ⟨⟨nm2⟩⟩]] W (SomeB W) from rtypeMay_calls ⟨28, ja, jb, ty2, cl2, nm2⟩ h2 W)
 have HTY := Hd hty
 have HC := Hd (fun W => rname_calls cl W)
 have HN := Hd (fun W => rname_calls nm W)
 obtain ⟨w1, hw1⟩ : ∃ w1, w1 = w.alloc (.cells (insArr ⟨28, ia, ib, ty, cl, nm⟩) 40) := ⟨_, rfl⟩
 have HX := Hd (show Blk w1 w.heap.size 40 (insArr ⟨28, ia, ib, ty, cl, nm⟩) by rw [hw1]; exact blk_new _ _ _ _ rfl)
 have HB1 := Hd (show Below w.heap.size w w1 by rw [hw1]; exact bl_alloc (Below.refl _ _) _)
 unfold insArr at hw1 HX
 unfold insV
 clear hty
 go_enter Tryz.func224, Tryz.ntmps224
 go_upto_region 1 with fail
 rw [← hw1]
 clear hw1
 have e0 := HX.out.cell 0
 have e6 := HX.out.lt
 go_wp2_with fail
 refine (rneeds28 _).mono ?_
 rintro e w2 ⟨rfl, hb2⟩
 obtain ⟨w3, hw3⟩ : ∃ w3, w3 = w2.alloc (.cells #[.bool false, .bool false, .bool false, .bool false, .bool false] 306) := ⟨_, rfl⟩
 have hb3 : Below w2.heap.size w2 w3 := by rw [hw3]; exact bl_alloc (Below.refl _ _) _
 have HA := Hd (show Blk w3 w2.heap.size 306 #[.bool false, .bool false, .bool false, .bool false, .bool false] by rw [hw3]; exact blk_new _ _ _ _ rfl)
 have HB3 := Hd (bl_trans HB1.out (bl_trans hb2 hb3))
 have HX3 := Hd (HX.out.below (bl_trans hb2 hb3))
 clear hb2 e0 e6 hb3
 go_upto_region 4 with fail
 rw [← hw3]
 clear hw3
 have e0 := HX3.out.cell 0
 have e1 := HX3.out.cell 1
 have e2 := HX3.out.cell 2
 have e3 := HX3.out.cell 3
 have e4 := HX3.out.cell 4
 have e5 := HX3.out.cell 5
 have e6 := HX3.out.lt
 have a0 := HA.out.cell 0
 have a1 := HA.out.cell 1
 have a2 := HA.out.cell 2
 have a3 := HA.out.cell 3
 have a4 := HA.out.cell 4
 have a6 := HA.out.lt
 go_wp2_with fail
 repeat' first
   | (with_reducible refine (HJ.out _).mono ?_
      rintro e w4 ⟨rfl, rfl⟩
      rw [show jumpsB 28 = false by decide]
      go_wp2_with fail)
   | (with_reducible refine (HT.out _ _ _ _ _ (by first | exact HTY.out | simp) _).mono ?_
      rintro e w4 ⟨⟨b, rfl⟩, hb4⟩
      have HB4 := Hd (bl_trans HB3.out hb4)
      have HX4 := Hd (HX3.out.below hb4)
      have HA4 := Hd (HA.out.below hb4)
      clear hb4
      clear e0 e1 e2 e3 e4 e5 e6 a0 a1 a2 a3 a4 a6
      have e0 := HX4.out.cell 0
      have e1 := HX4.out.cell 1
      have e2 := HX4.out.cell 2
      have e3 := HX4.out.cell 3
      have e4 := HX4.out.cell 4
      have e5 := HX4.out.cell 5
      have e6 := HX4.out.lt
      have a0 := HA4.out.cell 0
      have a1 := HA4.out.cell 1
      have a2 := HA4.out.cell 2
      have a3 := HA4.out.cell 3
      have a4 := HA4.out.cell 4
      have a6 := HA4.out.lt
      cases b <;> (go_wp2_with fail; go_ret; exact ⟨⟨_, rfl⟩, HB4.out⟩))
   | (go_ret; exact ⟨⟨_, rfl⟩, HB3.out⟩)
end Go.Proofs.YtddbnboicmaooaaGreatDoor
