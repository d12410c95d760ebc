import Derived.Test.YtddbnboicmaooaaGreatDoorRe2
namespace Go.Proofs.YtddbnboicmaooaaGreatDoor
set_option maxRecDepth 100000
set_option maxHeartbeats 16000000
set_option linter.unusedVariables false
set_option linter.unusedSimpArgs false
open Go.RowKit Go.Shelf Go.Lib
theorem rins15 (ia ib : Int) (ty cl nm : List UInt8) (hty : ty.length ≤ 8388608) (w : World) : Calls Tryz.prog 224 #[insV ⟨15, ia, ib, ty, cl, nm⟩] w (SomeE w) := by
 have HJ := Hd (fun W => rjumps_calls 15 W)
 have HW := Hd (fun W => rword32_calls ia W)
 have HT := Hd (fun (ja jb : Int) (ty2 cl2 nm2 : List UInt8) (h2 : ty2.length ≤ 8388608) W => show Calls Tryz.prog 252 #[.agg #[.int .i64 15, .int .i64 ja, .int .i64 jb, .string ⟨⟨ty2⟩⟩, .string ⟨⟨cl2⟩⟩, .string ⟨⟨nm2⟩⟩]] W (SomeB W) from rtypeMay_calls ⟨15, ja, jb, ty2, cl2, nm2⟩ h2 W)
 have HTY := Hd hty
 have HC := Hd (fun W => rname_calls cl W)
 have HN := Hd (fun W => rname_calls nm W)
 obtain ⟨w1, hw1⟩ : ∃ w1, w1 = w.alloc (.cells (insArr ⟨15, ia, ib, ty, cl, nm⟩) 40) := ⟨_, rfl⟩
 have HX := Hd (show Blk w1 w.heap.size 40 (insArr ⟨15, ia, ib, ty, cl, nm⟩) by rw [hw1]; exact blk_new _ _ _ _ rfl)
 have HB1 := Hd (show Below w.heap.size w w1 by rw [hw1]; exact bl_alloc (Below.refl _ _) _)
 unfold insArr at hw1 HX
 unfold insV
 clear hty
 go_enter Tryz.func224, Tryz.ntmps224
 go_upto_region 1 with fail
 rw [← hw1]
 clear hw1
 have e0 := HX.out.cell 0
 have e6 := HX.out.lt
 go_wp2_with fail
 refine (rneeds15 _).mono ?_
 rintro e w2 ⟨rfl, hb2⟩
 obtain ⟨w3, hw3⟩ : ∃ w3, w3 = w2.alloc (.cells #[.bool false, .bool false, .bool false, .bool true, .bool false] 306) := ⟨_, rfl⟩
 have hb3 : Below w2.heap.size w2 w3 := by rw [hw3]; exact bl_alloc (Below.refl _ _) _
 have HA := Hd (show Blk w3 w2.heap.size 306 #[.bool false, .bool false, .bool false, .bool true, .bool false] by rw [hw3]; exact blk_new _ _ _ _ rfl)
 have HB3 := Hd (bl_trans HB1.out (bl_trans hb2 hb3))
 have HX3 := Hd (HX.out.below (bl_trans hb2 hb3))
 clear hb2 e0 e6 hb3
 go_upto_region 4 with fail
 rw [← hw3]
 clear hw3
 have e0 := HX3.out.cell 0
 have e1 := HX3.out.cell 1
 have e2 := HX3.out.cell 2
 have e3 := HX3.out.cell 3
 have e4 := HX3.out.cell 4
 have e5 := HX3.out.cell 5
 have e6 := HX3.out.lt
 have a0 := HA.out.cell 0
 have a1 := HA.out.cell 1
 have a2 := HA.out.cell 2
 have a3 := HA.out.cell 3
 have a4 := HA.out.cell 4
 have a6 := HA.out.lt
 go_wp2_with fail
 repeat' first
   | (with_reducible refine (HJ.out _).mono ?_
      rintro e w4 ⟨rfl, rfl⟩
      rw [show jumpsB 15 = false by decide]
      go_wp2_with fail)
   | (with_reducible refine (HT.out _ _ _ _ _ (by first | exact HTY.out | simp) _).mono ?_
      rintro e w4 ⟨⟨b, rfl⟩, hb4⟩
      have HB4 := Hd (bl_trans HB3.out hb4)
      have HX4 := Hd (HX3.out.below hb4)
      have HA4 := Hd (HA.out.below hb4)
      clear hb4
      clear e0 e1 e2 e3 e4 e5 e6 a0 a1 a2 a3 a4 a6
      have e0 := HX4.out.cell 0
      have e1 := HX4.out.cell 1
      have e2 := HX4.out.cell 2
      have e3 := HX4.out.cell 3
      have e4 := HX4.out.cell 4
      have e5 := HX4.out.cell 5
      have e6 := HX4.out.lt
      have a0 := HA4.out.cell 0
      have a1 := HA4.out.cell 1
      have a2 := HA4.out.cell 2
      have a3 := HA4.out.cell 3
      have a4 := HA4.out.cell 4
      have a6 := HA4.out.lt
      cases b with
      | false =>
        go_wp2_with fail
        go_ret
        exact ⟨⟨_, rfl⟩, HB4.out⟩
      | true =>
        go_wp2_with fail
        refine (HC.out _).mono ?_
        rintro e w5 ⟨rfl, hb5⟩
        have HB5 := Hd (bl_trans HB4.out hb5)
        have HX5 := Hd (HX4.out.below hb5)
        have HA5 := Hd (HA4.out.below hb5)
        clear e0 e1 e2 e3 e4 e5 e6 a0 a1 a2 a3 a4 a6
        have e0 := HX5.out.cell 0
        have e1 := HX5.out.cell 1
        have e2 := HX5.out.cell 2
        have e3 := HX5.out.cell 3
        have e4 := HX5.out.cell 4
        have e5 := HX5.out.cell 5
        have e6 := HX5.out.lt
        have a0 := HA5.out.cell 0
        have a1 := HA5.out.cell 1
        have a2 := HA5.out.cell 2
        have a3 := HA5.out.cell 3
        have a4 := HA5.out.cell 4
        have a6 := HA5.out.lt
        cases nameOk cl <;> (go_wp2_with fail; (go_ret; exact ⟨⟨_, rfl⟩, HB5.out⟩)))
   | (go_ret; exact ⟨⟨_, rfl⟩, HB3.out⟩)
theorem rins16 (ia ib : Int) (ty cl nm : List UInt8) (hty : ty.length ≤ 8388608) (w : World) : Calls Tryz.prog 224 #[insV ⟨16, ia, ib, ty, cl, nm⟩] w (SomeE w) := by
 have HJ := Hd (fun W => rjumps_calls 16 W)
 have HW := Hd (fun W => rword32_calls ia W)
 have HT := Hd (fun (ja jb : Int) (ty2 cl2 nm2 : List UInt8) (h2 : ty2.length ≤ 8388608) W => show Calls Tryz.prog 252 #[.agg #[.int .i64 16, .int .i64 ja, .int .i64 jb, .string ⟨⟨ty2⟩⟩, .string ⟨⟨cl2⟩⟩, .string ⟨⟨nm2⟩⟩]] W (SomeB W) from rtypeMay_calls ⟨16, ja, jb, ty2, cl2, nm2⟩ h2 W)
 have HTY := Hd hty
 have HC := Hd (fun W => rname_calls cl W)
 have HN := Hd (fun W => rname_calls nm W)
 obtain ⟨w1, hw1⟩ : ∃ w1, w1 = w.alloc (.cells (insArr ⟨16, ia, ib, ty, cl, nm⟩) 40) := ⟨_, rfl⟩
 have HX := Hd (show Blk w1 w.heap.size 40 (insArr ⟨16, ia, ib, ty, cl, nm⟩) by rw [hw1]; exact blk_new _ _ _ _ rfl)
 have HB1 := Hd (show Below w.heap.size w w1 by rw [hw1]; exact bl_alloc (Below.refl _ _) _)
 unfold insArr at hw1 HX
 unfold insV
 clear hty
 go_enter Tryz.func224, Tryz.ntmps224
 go_upto_region 1 with fail
 rw [← hw1]
 clear hw1
 have e0 := HX.out.cell 0
 have e6 := HX.out.lt
 go_wp2_with fail
 refine (rneeds16 _).mono ?_
 rintro e w2 ⟨rfl, hb2⟩
 obtain ⟨w3, hw3⟩ : ∃ w3, w3 = w2.alloc (.cells #[.bool false, .bool false, .bool false, .bool true, .bool true] 306) := ⟨_, rfl⟩
 have hb3 : Below w2.heap.size w2 w3 := by rw [hw3]; exact bl_alloc (Below.refl _ _) _
 have HA := Hd (show Blk w3 w2.heap.size 306 #[.bool false, .bool false, .bool false, .bool true, .bool true] by rw [hw3]; exact blk_new _ _ _ _ rfl)
 have HB3 := Hd (bl_trans HB1.out (bl_trans hb2 hb3))
 have HX3 := Hd (HX.out.below (bl_trans hb2 hb3))
 clear hb2 e0 e6 hb3
 go_upto_region 4 with fail
 rw [← hw3]
 clear hw3
 have e0 := HX3.out.cell 0
 have e1 := HX3.out.cell 1
 have e2 := HX3.out.cell 2
 have e3 := HX3.out.cell 3
 have e4 := HX3.out.cell 4
 have e5 := HX3.out.cell 5
 have e6 := HX3.out.lt
 have a0 := HA.out.cell 0
 have a1 := HA.out.cell 1
 have a2 := HA.out.cell 2
 have a3 := HA.out.cell 3
 have a4 := HA.out.cell 4
 have a6 := HA.out.lt
 go_wp2_with fail
 repeat' first
   | (with_reducible refine (HJ.out _).mono ?_
      rintro e w4 ⟨rfl, rfl⟩
      rw [show jumpsB 16 = false by decide]
      go_wp2_with fail)
   | (with_reducible refine (HT.out _ _ _ _ _ (by first | exact HTY.out | simp) _).mono ?_
      rintro e w4 ⟨⟨b, rfl⟩, hb4⟩
      have HB4 := Hd (bl_trans HB3.out hb4)
      have HX4 := Hd (HX3.out.below hb4)
      have HA4 := Hd (HA.out.below hb4)
      clear hb4
      clear e0 e1 e2 e3 e4 e5 e6 a0 a1 a2 a3 a4 a6
      have e0 := HX4.out.cell 0
      have e1 := HX4.out.cell 1
      have e2 := HX4.out.cell 2
      have e3 := HX4.out.cell 3
      have e4 := HX4.out.cell 4
      have e5 := HX4.out.cell 5
      have e6 := HX4.out.lt
      have a0 := HA4.out.cell 0
      have a1 := HA4.out.cell 1
      have a2 := HA4.out.cell 2
      have a3 := HA4.out.cell 3
      have a4 := HA4.out.cell 4
      have a6 := HA4.out.lt
      cases b with
      | false =>
        go_wp2_with fail
        go_ret
        exact ⟨⟨_, rfl⟩, HB4.out⟩
      | true =>
        go_wp2_with fail
        refine (HC.out _).mono ?_
        rintro e w5 ⟨rfl, hb5⟩
        have HB5 := Hd (bl_trans HB4.out hb5)
        have HX5 := Hd (HX4.out.below hb5)
        have HA5 := Hd (HA4.out.below hb5)
        clear e0 e1 e2 e3 e4 e5 e6 a0 a1 a2 a3 a4 a6
        have e0 := HX5.out.cell 0
        have e1 := HX5.out.cell 1
        have e2 := HX5.out.cell 2
        have e3 := HX5.out.cell 3
        have e4 := HX5.out.cell 4
        have e5 := HX5.out.cell 5
        have e6 := HX5.out.lt
        have a0 := HA5.out.cell 0
        have a1 := HA5.out.cell 1
        have a2 := HA5.out.cell 2
        have a3 := HA5.out.cell 3
        have a4 := HA5.out.cell 4
        have a6 := HA5.out.lt
        cases nameOk cl <;> (go_wp2_with fail; first
            | (with_reducible refine (HN.out _).mono ?_
               rintro e w6 ⟨rfl, hb6⟩
               have HB6 := Hd (bl_trans HB5.out hb6)
               clear hb6 hb5
               cases nameOk nm <;> (go_wp2_with fail; go_ret; exact ⟨⟨_, rfl⟩, HB6.out⟩))
            | (go_ret; exact ⟨⟨_, rfl⟩, HB5.out⟩)))
   | (go_ret; exact ⟨⟨_, rfl⟩, HB3.out⟩)
theorem rins17 (ia ib : Int) (ty cl nm : List UInt8) (hty : ty.length ≤ 8388608) (w : World) : Calls Tryz.prog 224 #[insV ⟨17, ia, ib, ty, cl, nm⟩] w (SomeE w) := by
 have HJ := Hd (fun W => rjumps_calls 17 W)
 have HW := Hd (fun W => rword32_calls ia W)
 have HT := Hd (fun (ja jb : Int) (ty2 cl2 nm2 : List UInt8) (h2 : ty2.length ≤ 8388608) W => show Calls Tryz.prog 252 #[.agg #[.int .i64 17, .int .i64 ja, .int .i64 jb, .string ⟨⟨ty2⟩⟩, .string ⟨⟨cl2⟩⟩, .string ⟨⟨nm2⟩⟩]] W (SomeB W) from rtypeMay_calls ⟨17, ja, jb, ty2, cl2, nm2⟩ h2 W)
 have HTY := Hd hty
 have HC := Hd (fun W => rname_calls cl W)
 have HN := Hd (fun W => rname_calls nm W)
 obtain ⟨w1, hw1⟩ : ∃ w1, w1 = w.alloc (.cells (insArr ⟨17, ia, ib, ty, cl, nm⟩) 40) := ⟨_, rfl⟩
 have HX := Hd (show Blk w1 w.heap.size 40 (insArr ⟨17, ia, ib, ty, cl, nm⟩) by rw [hw1]; exact blk_new _ _ _ _ rfl)
 have HB1 := Hd (show Below w.heap.size w w1 by rw [hw1]; exact bl_alloc (Below.refl _ _) _)
 unfold insArr at hw1 HX
 unfold insV
 clear hty
 go_enter Tryz.func224, Tryz.ntmps224
 go_upto_region 1 with fail
 rw [← hw1]
 clear hw1
 have e0 := HX.out.cell 0
 have e6 := HX.out.lt
 go_wp2_with fail
 refine (rneeds17 _).mono ?_
 rintro e w2 ⟨rfl, hb2⟩
 obtain ⟨w3, hw3⟩ : ∃ w3, w3 = w2.alloc (.cells #[.bool false, .bool false, .bool false, .bool true, .bool true] 306) := ⟨_, rfl⟩
 have hb3 : Below w2.heap.size w2 w3 := by rw [hw3]; exact bl_alloc (Below.refl _ _) _
 have HA := Hd (show Blk w3 w2.heap.size 306 #[.bool false, .bool false, .bool false, .bool true, .bool true] by rw [hw3]; exact blk_new _ _ _ _ rfl)
 have HB3 := Hd (bl_trans HB1.out (bl_trans hb2 hb3))
 have HX3 := Hd (HX.out.below (bl_trans hb2 hb3))
 clear hb2 e0 e6 hb3
 go_upto_region 4 with fail
 rw [← hw3]
 clear hw3
 have e0 := HX3.out.cell 0
 have e1 := HX3.out.cell 1
 have e2 := HX3.out.cell 2
 have e3 := HX3.out.cell 3
 have e4 := HX3.out.cell 4
 have e5 := HX3.out.cell 5
 have e6 := HX3.out.lt
 have a0 := HA.out.cell 0
 have a1 := HA.out.cell 1
 have a2 := HA.out.cell 2
 have a3 := HA.out.cell 3
 have a4 := HA.out.cell 4
 have a6 := HA.out.lt
 go_wp2_with fail
 repeat' first
   | (with_reducible refine (HJ.out _).mono ?_
      rintro e w4 ⟨rfl, rfl⟩
      rw [show jumpsB 17 = false by decide]
      go_wp2_with fail)
   | (with_reducible refine (HT.out _ _ _ _ _ (by first | exact HTY.out | simp) _).mono ?_
      rintro e w4 ⟨⟨b, rfl⟩, hb4⟩
      have HB4 := Hd (bl_trans HB3.out hb4)
      have HX4 := Hd (HX3.out.below hb4)
      have HA4 := Hd (HA.out.below hb4)
      clear hb4
      clear e0 e1 e2 e3 e4 e5 e6 a0 a1 a2 a3 a4 a6
      have e0 := HX4.out.cell 0
      have e1 := HX4.out.cell 1
      have e2 := HX4.out.cell 2
      have e3 := HX4.out.cell 3
      have e4 := HX4.out.cell 4
      have e5 := HX4.out.cell 5
      have e6 := HX4.out.lt
      have a0 := HA4.out.cell 0
      have a1 := HA4.out.cell 1
      have a2 := HA4.out.cell 2
      have a3 := HA4.out.cell 3
      have a4 := HA4.out.cell 4
      have a6 := HA4.out.lt
      cases b with
      | false =>
        go_wp2_with fail
        go_ret
        exact ⟨⟨_, rfl⟩, HB4.out⟩
      | true =>
        go_wp2_with fail
        refine (HC.out _).mono ?_
        rintro e w5 ⟨rfl, hb5⟩
        have HB5 := Hd (bl_trans HB4.out hb5)
        have HX5 := Hd (HX4.out.below hb5)
        have HA5 := Hd (HA4.out.below hb5)
        clear e0 e1 e2 e3 e4 e5 e6 a0 a1 a2 a3 a4 a6
        have e0 := HX5.out.cell 0
        have e1 := HX5.out.cell 1
        have e2 := HX5.out.cell 2
        have e3 := HX5.out.cell 3
        have e4 := HX5.out.cell 4
        have e5 := HX5.out.cell 5
        have e6 := HX5.out.lt
        have a0 := HA5.out.cell 0
        have a1 := HA5.out.cell 1
        have a2 := HA5.out.cell 2
        have a3 := HA5.out.cell 3
        have a4 := HA5.out.cell 4
        have a6 := HA5.out.lt
        cases nameOk cl <;> (go_wp2_with fail; first
            | (with_reducible refine (HN.out _).mono ?_
               rintro e w6 ⟨rfl, hb6⟩
               have HB6 := Hd (bl_trans HB5.out hb6)
               clear hb6 hb5
               cases nameOk nm <;> (go_wp2_with fail; go_ret; exact ⟨⟨_, rfl⟩, HB6.out⟩))
            | (go_ret; exact ⟨⟨_, rfl⟩, HB5.out⟩)))
   | (go_ret; exact ⟨⟨_, rfl⟩, HB3.out⟩)
theorem rins18 (ia ib : Int) (ty cl nm : List UInt8) (hty : ty.length ≤ 8388608) (w : World) : Calls Tryz.prog 224 #[insV ⟨18, ia, ib, ty, cl, nm⟩] w (SomeE w) := by
 have HJ := Hd (fun W => rjumps_calls 18 W)
 have HW := Hd (fun W => rword32_calls ia W)
 have HT := Hd (fun (ja jb : Int) (ty2 cl2 nm2 : List UInt8) (h2 : ty2.length ≤ 8388608) W => show Calls Tryz.prog 252 #[.agg #[.int .i64 18, .int .i64 ja, .int .i64 jb, .string ⟨⟨ty2⟩⟩, .string ⟨⟨cl2⟩⟩, .string ⟨⟨nm2⟩⟩]] W (SomeB W) from rtypeMay_calls ⟨18, ja, jb, ty2, cl2, nm2⟩ h2 W)
 have HTY := Hd hty
 have HC := Hd (fun W => rname_calls cl W)
 have HN := Hd (fun W => rname_calls nm W)
 obtain ⟨w1, hw1⟩ : ∃ w1, w1 = w.alloc (.cells (insArr ⟨18, ia, ib, ty, cl, nm⟩) 40) := ⟨_, rfl⟩
 have HX := Hd (show Blk w1 w.heap.size 40 (insArr ⟨18, ia, ib, ty, cl, nm⟩) by rw [hw1]; exact blk_new _ _ _ _ rfl)
 have HB1 := Hd (show Below w.heap.size w w1 by rw [hw1]; exact bl_alloc (Below.refl _ _) _)
 unfold insArr at hw1 HX
 unfold insV
 clear hty
 go_enter Tryz.func224, Tryz.ntmps224
 go_upto_region 1 with fail
 rw [← hw1]
 clear hw1
 have e0 := HX.out.cell 0
 have e6 := HX.out.lt
 go_wp2_with fail
 refine (rneeds18 _).mono ?_
 rintro e w2 ⟨rfl, hb2⟩
 obtain ⟨w3, hw3⟩ : ∃ w3, w3 = w2.alloc (.cells #[.bool false, .bool false, .bool true, .bool false, .bool false] 306) := ⟨_, rfl⟩
 have hb3 : Below w2.heap.size w2 w3 := by rw [hw3]; exact bl_alloc (Below.refl _ _) _
 have HA := Hd (show Blk w3 w2.heap.size 306 #[.bool false, .bool false, .bool true, .bool false, .bool false] by rw [hw3]; exact blk_new _ _ _ _ rfl)
 have HB3 := Hd (bl_trans HB1.out (bl_trans hb2 hb3))
 have HX3 := Hd (HX.out.below (bl_trans hb2 hb3))
 clear hb2 e0 e6 hb3
 go_upto_region 4 with fail
 rw [← hw3]
 clear hw3
 have e0 := HX3.out.cell 0
 have e1 := HX3.out.cell 1
 have e2 := HX3.out.cell 2
 have e3 := HX3.out.cell 3
 have e4 := HX3.out.cell 4
 have e5 := HX3.out.cell 5
 have e6 := HX3.out.lt
 have a0 := HA.out.cell 0
 have a1 := HA.out.cell 1
 have a2 := HA.out.cell 2
 have a3 := HA.out.cell 3
 have a4 := HA.out.cell 4
 have a6 := HA.out.lt
 go_wp2_with fail
 repeat' first
   | (with_reducible refine (HJ.out _).mono ?_
      rintro e w4 ⟨rfl, rfl⟩
      rw [show jumpsB 18 = false by decide]
      go_wp2_with fail)
   | (with_reducible refine (HT.out _ _ _ _ _ (by first | exact HTY.out | simp) _).mono ?_
      rintro e w4 ⟨⟨b, rfl⟩, hb4⟩
      have HB4 := Hd (bl_trans HB3.out hb4)
      have HX4 := Hd (HX3.out.below hb4)
      have HA4 := Hd (HA.out.below hb4)
      clear hb4
      clear e0 e1 e2 e3 e4 e5 e6 a0 a1 a2 a3 a4 a6
      have e0 := HX4.out.cell 0
      have e1 := HX4.out.cell 1
      have e2 := HX4.out.cell 2
      have e3 := HX4.out.cell 3
      have e4 := HX4.out.cell 4
      have e5 := HX4.out.cell 5
      have e6 := HX4.out.lt
      have a0 := HA4.out.cell 0
      have a1 := HA4.out.cell 1
      have a2 := HA4.out.cell 2
      have a3 := HA4.out.cell 3
      have a4 := HA4.out.cell 4
      have a6 := HA4.out.lt
      cases b <;> (go_wp2_with fail; go_ret; exact ⟨⟨_, rfl⟩, HB4.out⟩))
   | (go_ret; exact ⟨⟨_, rfl⟩, HB3.out⟩)
theorem rins19 (ia ib : Int) (ty cl nm : List UInt8) (hty : ty.length ≤ 8388608) (w : World) : Calls Tryz.prog 224 #[insV ⟨19, ia, ib, ty, cl, nm⟩] w (SomeE w) := by
 have HJ := Hd (fun W => rjumps_calls 19 W)
 have HW := Hd (fun W => rword32_calls ia W)
 have HT := Hd (fun (ja jb : Int) (ty2 cl2 nm2 : List UInt8) (h2 : ty2.length ≤ 8388608) W => show Calls Tryz.prog 252 #[.agg #[.int .i64 19, .int .i64 ja, .int .i64 jb, .string ⟨⟨ty2⟩⟩, .string ⟨⟨cl2⟩⟩, .string ⟨⟨nm2⟩⟩]] W (SomeB W) from rtypeMay_calls ⟨19, ja, jb, ty2, cl2, nm2⟩ h2 W)
 have HTY := Hd hty
 have HC := Hd (fun W => rname_calls cl W)
 have HN := Hd (fun W => rname_calls nm W)
 obtain ⟨w1, hw1⟩ : ∃ w1, w1 = w.alloc (.cells (insArr ⟨19, ia, ib, ty, cl, nm⟩) 40) := ⟨_, rfl⟩
 have HX := Hd (show Blk w1 w.heap.size 40 (insArr ⟨19, ia, ib, ty, cl, nm⟩) by rw [hw1]; exact blk_new _ _ _ _ rfl)
 have HB1 := Hd (show Below w.heap.size w w1 by rw [hw1]; exact bl_alloc (Below.refl _ _) _)
 unfold insArr at hw1 HX
 unfold insV
 clear hty
 go_enter Tryz.func224, Tryz.ntmps224
 go_upto_region 1 with fail
 rw [← hw1]
 clear hw1
 have e0 := HX.out.cell 0
 have e6 := HX.out.lt
 go_wp2_with fail
 refine (rneeds19 _).mono ?_
 rintro e w2 ⟨rfl, hb2⟩
 obtain ⟨w3, hw3⟩ : ∃ w3, w3 = w2.alloc (.cells #[.bool false, .bool false, .bool false, .bool false, .bool false] 306) := ⟨_, rfl⟩
 have hb3 : Below w2.heap.size w2 w3 := by rw [hw3]; exact bl_alloc (Below.refl _ _) _
 have HA := Hd (show Blk w3 w2.heap.size 306 #[.bool false, .bool false, .bool false, .bool false, .bool false] by rw [hw3]; exact blk_new _ _ _ _ rfl)
 have HB3 := Hd (bl_trans HB1.out (bl_trans hb2 hb3))
 have HX3 := Hd (HX.out.below (bl_trans hb2 hb3))
 clear hb2 e0 e6 hb3
 go_upto_region 4 with fail
 rw [← hw3]
 clear hw3
 have e0 := HX3.out.cell 0
 have e1 := HX3.out.cell 1
 have e2 := HX3.out.cell 2
 have e3 := HX3.out.cell 3
 have e4 := HX3.out.cell 4
 have e5 := HX3.out.cell 5
 have e6 := HX3.out.lt
 have a0 := HA.out.cell 0
 have a1 := HA.out.cell 1
 have a2 := HA.out.cell 2
 have a3 := HA.out.cell 3
 have a4 := HA.out.cell 4
 have a6 := HA.out.lt
 go_wp2_with fail
 repeat' first
   | (with_reducible refine (HJ.out _).mono ?_
      rintro e w4 ⟨rfl, rfl⟩
      rw [show jumpsB 19 = false by decide]
      go_wp2_with fail)
   | (with_reducible refine (HT.out _ _ _ _ _ (by first | exact HTY.out | simp) _).mono ?_
      rintro e w4 ⟨⟨b, rfl⟩, hb4⟩
      have HB4 := Hd (bl_trans HB3.out hb4)
      have HX4 := Hd (HX3.out.below hb4)
      have HA4 := Hd (HA.out.below hb4)
      clear hb4
      clear e0 e1 e2 e3 e4 e5 e6 a0 a1 a2 a3 a4 a6
      have e0 := HX4.out.cell 0
      have e1 := HX4.out.cell 1
      have e2 := HX4.out.cell 2
      have e3 := HX4.out.cell 3
      have e4 := HX4.out.cell 4
      have e5 := HX4.out.cell 5
      have e6 := HX4.out.lt
      have a0 := HA4.out.cell 0
      have a1 := HA4.out.cell 1
      have a2 := HA4.out.cell 2
      have a3 := HA4.out.cell 3
      have a4 := HA4.out.cell 4
      have a6 := HA4.out.lt
      cases b <;> (go_wp2_with fail; go_ret; exact ⟨⟨_, rfl⟩, HB4.out⟩))
   | (go_ret; exact ⟨⟨_, rfl⟩, HB3.out⟩)
theorem rins20 (ia ib : Int) (ty cl nm : List UInt8) (hty : ty.length ≤ 8388608) (w : World) : Calls Tryz.prog 224 #[insV ⟨20, ia, ib, ty, cl, nm⟩] w (SomeE w) := by
 have HJ := Hd (fun W => rjumps_calls 20 W)
 have HW := Hd (fun W => rword32_calls ia W)
 have HT := Hd (fun (ja jb : Int) (ty2 cl2 nm2 : List UInt8) (h2 : ty2.length ≤ 8388608) W => show Calls Tryz.prog 252 #[.agg #[.int .i64 20, .int .i64 ja, .int .i64 jb, .string ⟨⟨ty2⟩⟩, .string ⟨⟨cl2⟩⟩, .string ⟨⟨nm2⟩⟩]] W (SomeB W) from rtypeMay_calls ⟨20, ja, jb, ty2, cl2, nm2⟩ h2 W)
 have HTY := Hd hty
 have HC := Hd (fun W => rname_calls cl W)
 have HN := Hd (fun W => rname_calls nm W)
 obtain ⟨w1, hw1⟩ : ∃ w1, w1 = w.alloc (.cells (insArr ⟨20, ia, ib, ty, cl, nm⟩) 40) := ⟨_, rfl⟩
 have HX := Hd (show Blk w1 w.heap.size 40 (insArr ⟨20, ia, ib, ty, cl, nm⟩) by rw [hw1]; exact blk_new _ _ _ _ rfl)
 have HB1 := Hd (show Below w.heap.size w w1 by rw [hw1]; exact bl_alloc (Below.refl _ _) _)
 unfold insArr at hw1 HX
 unfold insV
 clear hty
 go_enter Tryz.func224, Tryz.ntmps224
 go_upto_region 1 with fail
 rw [← hw1]
 clear hw1
 have e0 := HX.out.cell 0
 have e6 := HX.out.lt
 go_wp2_with fail
 refine (rneeds20 _).mono ?_
 rintro e w2 ⟨rfl, hb2⟩
 obtain ⟨w3, hw3⟩ : ∃ w3, w3 = w2.alloc (.cells #[.bool false, .bool false, .bool true, .bool false, .bool false] 306) := ⟨_, rfl⟩
 have hb3 : Below w2.heap.size w2 w3 := by rw [hw3]; exact bl_alloc (Below.refl _ _) _
 have HA := Hd (show Blk w3 w2.heap.size 306 #[.bool false, .bool false, .bool true, .bool false, .bool false] by rw [hw3]; exact blk_new _ _ _ _ rfl)
 have HB3 := Hd (bl_trans HB1.out (bl_trans hb2 hb3))
 have HX3 := Hd (HX.out.below (bl_trans hb2 hb3))
 clear hb2 e0 e6 hb3
 go_upto_region 4 with fail
 rw [← hw3]
 clear hw3
 have e0 := HX3.out.cell 0
 have e1 := HX3.out.cell 1
 have e2 := HX3.out.cell 2
 have e3 := HX3.out.cell 3
 have e4 := HX3.out.cell 4
 have e5 := HX3.out.cell 5
 have e6 := HX3.out.lt
 have a0 := HA.out.cell 0
 have a1 := HA.out.cell 1
 have a2 := HA.out.cell 2
 have a3 := HA.out.cell 3
 have a4 := HA.out.cell 4
 have a6 := HA.out.lt
 go_wp2_with fail
 repeat' first
   | (with_reducible refine (HJ.out _).mono ?_
      rintro e w4 ⟨rfl, rfl⟩
      rw [show jumpsB 20 = false by decide]
      go_wp2_with fail)
   | (with_reducible refine (HT.out _ _ _ _ _ (by first | exact HTY.out | simp) _).mono ?_
      rintro e w4 ⟨⟨b, rfl⟩, hb4⟩
      have HB4 := Hd (bl_trans HB3.out hb4)
      have HX4 := Hd (HX3.out.below hb4)
      have HA4 := Hd (HA.out.below hb4)
      clear hb4
      clear e0 e1 e2 e3 e4 e5 e6 a0 a1 a2 a3 a4 a6
      have e0 := HX4.out.cell 0
      have e1 := HX4.out.cell 1
      have e2 := HX4.out.cell 2
      have e3 := HX4.out.cell 3
      have e4 := HX4.out.cell 4
      have e5 := HX4.out.cell 5
      have e6 := HX4.out.lt
      have a0 := HA4.out.cell 0
      have a1 := HA4.out.cell 1
      have a2 := HA4.out.cell 2
      have a3 := HA4.out.cell 3
      have a4 := HA4.out.cell 4
      have a6 := HA4.out.lt
      cases b <;> (go_wp2_with fail; go_ret; exact ⟨⟨_, rfl⟩, HB4.out⟩))
   | (go_ret; exact ⟨⟨_, rfl⟩, HB3.out⟩)
end Go.Proofs.YtddbnboicmaooaaGreatDoor
