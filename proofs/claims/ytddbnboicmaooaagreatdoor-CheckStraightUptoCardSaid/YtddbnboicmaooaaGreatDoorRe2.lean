import Derived.Test.YtddbnboicmaooaaGreatDoorRe1
import Derived.Test.YtddbnboicmaooaaGreatDoorSc
namespace Go.Proofs.YtddbnboicmaooaaGreatDoor
set_option maxRecDepth 100000
set_option maxHeartbeats 16000000
set_option linter.unusedVariables false
set_option linter.unusedSimpArgs false
open Go.RowKit Go.Shelf Go.Lib
def Is5 (a b c d f : Bool) (w : World) (e : Ending) (w' : World) : Prop := e = .returned (.agg #[.bool a, .bool b, .bool c, .bool d, .bool f]) ∧ Below w.heap.size w w'
theorem rneeds1 (w : World) : Calls Tryz.prog 251 #[.int .i64 1] w (Is5 false false false false false w) := by
 have HJ := Hd (fun n W => rjumps_calls n W)
 go_enter Tryz.func251, Tryz.ntmps251
 go_wp2_with fail
 refine (HJ.out _ _).mono ?_
 rintro e w1 ⟨rfl, rfl⟩
 rw [show jumpsB 1 = false by decide]
 go_wp2_with fail
 exact bodyPost_ret (v := .agg #[.bool false, .bool false, .bool false, .bool false, .bool false]) (by simp [results, Tryz.results251, go_sem]) rfl ⟨rfl, bl_alloc (Below.refl _ _) _⟩
theorem rneeds2 (w : World) : Calls Tryz.prog 251 #[.int .i64 2] w (Is5 true false true false false w) := by
 have HJ := Hd (fun n W => rjumps_calls n W)
 go_enter Tryz.func251, Tryz.ntmps251
 go_wp2_with fail
 exact bodyPost_ret (v := .agg #[.bool true, .bool false, .bool true, .bool false, .bool false]) (by simp [results, Tryz.results251, go_sem]) rfl ⟨rfl, bl_alloc (Below.refl _ _) _⟩
theorem rneeds3 (w : World) : Calls Tryz.prog 251 #[.int .i64 3] w (Is5 false false false false false w) := by
 have HJ := Hd (fun n W => rjumps_calls n W)
 go_enter Tryz.func251, Tryz.ntmps251
 go_wp2_with fail
 refine (HJ.out _ _).mono ?_
 rintro e w1 ⟨rfl, rfl⟩
 rw [show jumpsB 3 = false by decide]
 go_wp2_with fail
 exact bodyPost_ret (v := .agg #[.bool false, .bool false, .bool false, .bool false, .bool false]) (by simp [results, Tryz.results251, go_sem]) rfl ⟨rfl, bl_alloc (Below.refl _ _) _⟩
theorem rneeds4 (w : World) : Calls Tryz.prog 251 #[.int .i64 4] w (Is5 true false false false false w) := by
 have HJ := Hd (fun n W => rjumps_calls n W)
 go_enter Tryz.func251, Tryz.ntmps251
 go_wp2_with fail
 exact bodyPost_ret (v := .agg #[.bool true, .bool false, .bool false, .bool false, .bool false]) (by simp [results, Tryz.results251, go_sem]) rfl ⟨rfl, bl_alloc (Below.refl _ _) _⟩
theorem rneeds5 (w : World) : Calls Tryz.prog 251 #[.int .i64 5] w (Is5 true false false false false w) := by
 have HJ := Hd (fun n W => rjumps_calls n W)
 go_enter Tryz.func251, Tryz.ntmps251
 go_wp2_with fail
 exact bodyPost_ret (v := .agg #[.bool true, .bool false, .bool false, .bool false, .bool false]) (by simp [results, Tryz.results251, go_sem]) rfl ⟨rfl, bl_alloc (Below.refl _ _) _⟩
theorem rneeds6 (w : World) : Calls Tryz.prog 251 #[.int .i64 6] w (Is5 false false false false false w) := by
 have HJ := Hd (fun n W => rjumps_calls n W)
 go_enter Tryz.func251, Tryz.ntmps251
 go_wp2_with fail
 refine (HJ.out _ _).mono ?_
 rintro e w1 ⟨rfl, rfl⟩
 rw [show jumpsB 6 = false by decide]
 go_wp2_with fail
 exact bodyPost_ret (v := .agg #[.bool false, .bool false, .bool false, .bool false, .bool false]) (by simp [results, Tryz.results251, go_sem]) rfl ⟨rfl, bl_alloc (Below.refl _ _) _⟩
theorem rneeds7 (w : World) : Calls Tryz.prog 251 #[.int .i64 7] w (Is5 false false false false false w) := by
 have HJ := Hd (fun n W => rjumps_calls n W)
 go_enter Tryz.func251, Tryz.ntmps251
 go_wp2_with fail
 refine (HJ.out _ _).mono ?_
 rintro e w1 ⟨rfl, rfl⟩
 rw [show jumpsB 7 = false by decide]
 go_wp2_with fail
 exact bodyPost_ret (v := .agg #[.bool false, .bool false, .bool false, .bool false, .bool false]) (by simp [results, Tryz.results251, go_sem]) rfl ⟨rfl, bl_alloc (Below.refl _ _) _⟩
theorem rneeds8 (w : World) : Calls Tryz.prog 251 #[.int .i64 8] w (Is5 false false false false false w) := by
 have HJ := Hd (fun n W => rjumps_calls n W)
 go_enter Tryz.func251, Tryz.ntmps251
 go_wp2_with fail
 refine (HJ.out _ _).mono ?_
 rintro e w1 ⟨rfl, rfl⟩
 rw [show jumpsB 8 = false by decide]
 go_wp2_with fail
 exact bodyPost_ret (v := .agg #[.bool false, .bool false, .bool false, .bool false, .bool false]) (by simp [results, Tryz.results251, go_sem]) rfl ⟨rfl, bl_alloc (Below.refl _ _) _⟩
theorem rneeds9 (w : World) : Calls Tryz.prog 251 #[.int .i64 9] w (Is5 true false true false false w) := by
 have HJ := Hd (fun n W => rjumps_calls n W)
 go_enter Tryz.func251, Tryz.ntmps251
 go_wp2_with fail
 exact bodyPost_ret (v := .agg #[.bool true, .bool false, .bool true, .bool false, .bool false]) (by simp [results, Tryz.results251, go_sem]) rfl ⟨rfl, bl_alloc (Below.refl _ _) _⟩
theorem rneeds10 (w : World) : Calls Tryz.prog 251 #[.int .i64 10] w (Is5 false false true false false w) := by
 have HJ := Hd (fun n W => rjumps_calls n W)
 go_enter Tryz.func251, Tryz.ntmps251
 go_wp2_with fail
 refine (HJ.out _ _).mono ?_
 rintro e w1 ⟨rfl, rfl⟩
 rw [show jumpsB 10 = false by decide]
 go_wp2_with fail
 exact bodyPost_ret (v := .agg #[.bool false, .bool false, .bool true, .bool false, .bool false]) (by simp [results, Tryz.results251, go_sem]) rfl ⟨rfl, bl_alloc (Below.refl _ _) _⟩
theorem rneeds11 (w : World) : Calls Tryz.prog 251 #[.int .i64 11] w (Is5 false false false false false w) := by
 have HJ := Hd (fun n W => rjumps_calls n W)
 go_enter Tryz.func251, Tryz.ntmps251
 go_wp2_with fail
 refine (HJ.out _ _).mono ?_
 rintro e w1 ⟨rfl, rfl⟩
 rw [show jumpsB 11 = false by decide]
 go_wp2_with fail
 exact bodyPost_ret (v := .agg #[.bool false, .bool false, .bool false, .bool false, .bool false]) (by simp [results, Tryz.results251, go_sem]) rfl ⟨rfl, bl_alloc (Below.refl _ _) _⟩
theorem rneeds12 (w : World) : Calls Tryz.prog 251 #[.int .i64 12] w (Is5 true true false false false w) := by
 have HJ := Hd (fun n W => rjumps_calls n W)
 go_enter Tryz.func251, Tryz.ntmps251
 go_wp2_with fail
 refine (HJ.out _ _).mono ?_
 rintro e w1 ⟨rfl, rfl⟩
 rw [show jumpsB 12 = true by decide]
 go_wp2_with fail
 exact bodyPost_ret (v := .agg #[.bool true, .bool true, .bool false, .bool false, .bool false]) (by simp [results, Tryz.results251, go_sem]) rfl ⟨rfl, bl_alloc (Below.refl _ _) _⟩
theorem rneeds13 (w : World) : Calls Tryz.prog 251 #[.int .i64 13] w (Is5 true false false false false w) := by
 have HJ := Hd (fun n W => rjumps_calls n W)
 go_enter Tryz.func251, Tryz.ntmps251
 go_wp2_with fail
 refine (HJ.out _ _).mono ?_
 rintro e w1 ⟨rfl, rfl⟩
 rw [show jumpsB 13 = true by decide]
 go_wp2_with fail
 exact bodyPost_ret (v := .agg #[.bool true, .bool false, .bool false, .bool false, .bool false]) (by simp [results, Tryz.results251, go_sem]) rfl ⟨rfl, bl_alloc (Below.refl _ _) _⟩
theorem rneeds14 (w : World) : Calls Tryz.prog 251 #[.int .i64 14] w (Is5 true false false false false w) := by
 have HJ := Hd (fun n W => rjumps_calls n W)
 go_enter Tryz.func251, Tryz.ntmps251
 go_wp2_with fail
 refine (HJ.out _ _).mono ?_
 rintro e w1 ⟨rfl, rfl⟩
 rw [show jumpsB 14 = true by decide]
 go_wp2_with fail
 exact bodyPost_ret (v := .agg #[.bool true, .bool false, .bool false, .bool false, .bool false]) (by simp [results, Tryz.results251, go_sem]) rfl ⟨rfl, bl_alloc (Below.refl _ _) _⟩
theorem rneeds15 (w : World) : Calls Tryz.prog 251 #[.int .i64 15] w (Is5 false false false true false w) := by
 have HJ := Hd (fun n W => rjumps_calls n W)
 go_enter Tryz.func251, Tryz.ntmps251
 go_wp2_with fail
 refine (HJ.out _ _).mono ?_
 rintro e w1 ⟨rfl, rfl⟩
 rw [show jumpsB 15 = false by decide]
 go_wp2_with fail
 exact bodyPost_ret (v := .agg #[.bool false, .bool false, .bool false, .bool true, .bool false]) (by simp [results, Tryz.results251, go_sem]) rfl ⟨rfl, bl_alloc (Below.refl _ _) _⟩
theorem rneeds16 (w : World) : Calls Tryz.prog 251 #[.int .i64 16] w (Is5 false false false true true w) := by
 have HJ := Hd (fun n W => rjumps_calls n W)
 go_enter Tryz.func251, Tryz.ntmps251
 go_wp2_with fail
 refine (HJ.out _ _).mono ?_
 rintro e w1 ⟨rfl, rfl⟩
 rw [show jumpsB 16 = false by decide]
 go_wp2_with fail
 exact bodyPost_ret (v := .agg #[.bool false, .bool false, .bool false, .bool true, .bool true]) (by simp [results, Tryz.results251, go_sem]) rfl ⟨rfl, bl_alloc (Below.refl _ _) _⟩
theorem rneeds17 (w : World) : Calls Tryz.prog 251 #[.int .i64 17] w (Is5 false false false true true w) := by
 have HJ := Hd (fun n W => rjumps_calls n W)
 go_enter Tryz.func251, Tryz.ntmps251
 go_wp2_with fail
 refine (HJ.out _ _).mono ?_
 rintro e w1 ⟨rfl, rfl⟩
 rw [show jumpsB 17 = false by decide]
 go_wp2_with fail
 exact bodyPost_ret (v := .agg #[.bool false, .bool false, .bool false, .bool true, .bool true]) (by simp [results, Tryz.results251, go_sem]) rfl ⟨rfl, bl_alloc (Below.refl _ _) _⟩
theorem rneeds18 (w : World) : Calls Tryz.prog 251 #[.int .i64 18] w (Is5 false false true false false w) := by
 have HJ := Hd (fun n W => rjumps_calls n W)
 go_enter Tryz.func251, Tryz.ntmps251
 go_wp2_with fail
 refine (HJ.out _ _).mono ?_
 rintro e w1 ⟨rfl, rfl⟩
 rw [show jumpsB 18 = false by decide]
 go_wp2_with fail
 exact bodyPost_ret (v := .agg #[.bool false, .bool false, .bool true, .bool false, .bool false]) (by simp [results, Tryz.results251, go_sem]) rfl ⟨rfl, bl_alloc (Below.refl _ _) _⟩
theorem rneeds19 (w : World) : Calls Tryz.prog 251 #[.int .i64 19] w (Is5 false false false false false w) := by
 have HJ := Hd (fun n W => rjumps_calls n W)
 go_enter Tryz.func251, Tryz.ntmps251
 go_wp2_with fail
 refine (HJ.out _ _).mono ?_
 rintro e w1 ⟨rfl, rfl⟩
 rw [show jumpsB 19 = false by decide]
 go_wp2_with fail
 exact bodyPost_ret (v := .agg #[.bool false, .bool false, .bool false, .bool false, .bool false]) (by simp [results, Tryz.results251, go_sem]) rfl ⟨rfl, bl_alloc (Below.refl _ _) _⟩
theorem rneeds20 (w : World) : Calls Tryz.prog 251 #[.int .i64 20] w (Is5 false false true false false w) := by
 have HJ := Hd (fun n W => rjumps_calls n W)
 go_enter Tryz.func251, Tryz.ntmps251
 go_wp2_with fail
 refine (HJ.out _ _).mono ?_
 rintro e w1 ⟨rfl, rfl⟩
 rw [show jumpsB 20 = false by decide]
 go_wp2_with fail
 exact bodyPost_ret (v := .agg #[.bool false, .bool false, .bool true, .bool false, .bool false]) (by simp [results, Tryz.results251, go_sem]) rfl ⟨rfl, bl_alloc (Below.refl _ _) _⟩
theorem rneeds21 (w : World) : Calls Tryz.prog 251 #[.int .i64 21] w (Is5 false false true false false w) := by
 have HJ := Hd (fun n W => rjumps_calls n W)
 go_enter Tryz.func251, Tryz.ntmps251
 go_wp2_with fail
 refine (HJ.out _ _).mono ?_
 rintro e w1 ⟨rfl, rfl⟩
 rw [show jumpsB 21 = false by decide]
 go_wp2_with fail
 exact bodyPost_ret (v := .agg #[.bool false, .bool false, .bool true, .bool false, .bool false]) (by simp [results, Tryz.results251, go_sem]) rfl ⟨rfl, bl_alloc (Below.refl _ _) _⟩
theorem rneeds22 (w : World) : Calls Tryz.prog 251 #[.int .i64 22] w (Is5 false false true false false w) := by
 have HJ := Hd (fun n W => rjumps_calls n W)
 go_enter Tryz.func251, Tryz.ntmps251
 go_wp2_with fail
 refine (HJ.out _ _).mono ?_
 rintro e w1 ⟨rfl, rfl⟩
 rw [show jumpsB 22 = false by decide]
 go_wp2_with fail
 exact bodyPost_ret (v := .agg #[.bool false, .bool false, .bool true, .bool false, .bool false]) (by simp [results, Tryz.results251, go_sem]) rfl ⟨rfl, bl_alloc (Below.refl _ _) _⟩
theorem rneeds23 (w : World) : Calls Tryz.prog 251 #[.int .i64 23] w (Is5 false false true false false w) := by
 have HJ := Hd (fun n W => rjumps_calls n W)
 go_enter Tryz.func251, Tryz.ntmps251
 go_wp2_with fail
 refine (HJ.out _ _).mono ?_
 rintro e w1 ⟨rfl, rfl⟩
 rw [show jumpsB 23 = false by decide]
 go_wp2_with fail
 exact bodyPost_ret (v := .agg #[.bool false, .bool false, .bool true, .bool false, .bool false]) (by simp [results, Tryz.results251, go_sem]) rfl ⟨rfl, bl_alloc (Below.refl _ _) _⟩
theorem rneeds24 (w : World) : Calls Tryz.prog 251 #[.int .i64 24] w (Is5 false false true true true w) := by
 have HJ := Hd (fun n W => rjumps_calls n W)
 go_enter Tryz.func251, Tryz.ntmps251
 go_wp2_with fail
 refine (HJ.out _ _).mono ?_
 rintro e w1 ⟨rfl, rfl⟩
 rw [show jumpsB 24 = false by decide]
 go_wp2_with fail
 exact bodyPost_ret (v := .agg #[.bool false, .bool false, .bool true, .bool true, .bool true]) (by simp [results, Tryz.results251, go_sem]) rfl ⟨rfl, bl_alloc (Below.refl _ _) _⟩
theorem rneeds25 (w : World) : Calls Tryz.prog 251 #[.int .i64 25] w (Is5 false false true true true w) := by
 have HJ := Hd (fun n W => rjumps_calls n W)
 go_enter Tryz.func251, Tryz.ntmps251
 go_wp2_with fail
 refine (HJ.out _ _).mono ?_
 rintro e w1 ⟨rfl, rfl⟩
 rw [show jumpsB 25 = false by decide]
 go_wp2_with fail
 exact bodyPost_ret (v := .agg #[.bool false, .bool false, .bool true, .bool true, .bool true]) (by simp [results, Tryz.results251, go_sem]) rfl ⟨rfl, bl_alloc (Below.refl _ _) _⟩
theorem rneeds26 (w : World) : Calls Tryz.prog 251 #[.int .i64 26] w (Is5 false false false false false w) := by
 have HJ := Hd (fun n W => rjumps_calls n W)
 go_enter Tryz.func251, Tryz.ntmps251
 go_wp2_with fail
 refine (HJ.out _ _).mono ?_
 rintro e w1 ⟨rfl, rfl⟩
 rw [show jumpsB 26 = false by decide]
 go_wp2_with fail
 exact bodyPost_ret (v := .agg #[.bool false, .bool false, .bool false, .bool false, .bool false]) (by simp [results, Tryz.results251, go_sem]) rfl ⟨rfl, bl_alloc (Below.refl _ _) _⟩
theorem rneeds27 (w : World) : Calls Tryz.prog 251 #[.int .i64 27] w (Is5 false false false false false w) := by
 have HJ := Hd (fun n W => rjumps_calls n W)
 go_enter Tryz.func251, Tryz.ntmps251
 go_wp2_with fail
 refine (HJ.out _ _).mono ?_
 rintro e w1 ⟨rfl, rfl⟩
 rw [show jumpsB 27 = false by decide]
 go_wp2_with fail
 exact bodyPost_ret (v := .agg #[.bool false, .bool false, .bool false, .bool false, .bool false]) (by simp [results, Tryz.results251, go_sem]) rfl ⟨rfl, bl_alloc (Below.refl _ _) _⟩
theorem rneeds28 (w : World) : Calls Tryz.prog 251 #[.int .i64 28] w (Is5 false false false false false w) := by
 have HJ := Hd (fun n W => rjumps_calls n W)
 go_enter Tryz.func251, Tryz.ntmps251
 go_wp2_with fail
 refine (HJ.out _ _).mono ?_
 rintro e w1 ⟨rfl, rfl⟩
 rw [show jumpsB 28 = false by decide]
 go_wp2_with fail
 exact bodyPost_ret (v := .agg #[.bool false, .bool false, .bool false, .bool false, .bool false]) (by simp [results, Tryz.results251, go_sem]) rfl ⟨rfl, bl_alloc (Below.refl _ _) _⟩
def SomeE (w : World) (e : Ending) (w' : World) : Prop := (∃ n : Int, e = .returned (.int .i64 n)) ∧ Below w.heap.size w w'
theorem rtypeMay_calls (x : InsR) (hty : x.ty.length ≤ 8388608) (w : World) : Calls Tryz.prog 252 #[insV x] w (SomeB w) := by
 obtain ⟨op, ia, ib, ty, cl, nm⟩ := x
 have HW := Hd (fun W => rword_calls ty W)
 have HT := Hd (fun W => rtype_calls ty W hty)
 have HR := Hd (fun W => rref_calls ty W hty)
 have HD := Hd (fun W => rdeep_calls ty W hty)
 have HM := Hd (fun W => methodOf_calls ty hty W)
 obtain ⟨w1, hw1⟩ : ∃ w1, w1 = w.alloc (.cells (insArr ⟨op, ia, ib, ty, cl, nm⟩) 40) := ⟨_, rfl⟩
 have HX := Hd (show Blk w1 w.heap.size 40 (insArr ⟨op, ia, ib, ty, cl, nm⟩) by rw [hw1]; exact blk_new _ _ _ _ rfl)
 have HB1 := Hd (show Below w.heap.size w w1 by rw [hw1]; exact bl_alloc (Below.refl _ _) _)
 unfold insArr at hw1 HX
 unfold insV
 clear hty
 go_enter Tryz.func252, Tryz.ntmps252
 go_upto_region 1 with fail
 rw [← hw1]
 clear hw1
 have e0 := HX.out.cell 0
 have e3 := HX.out.cell 3
 have e6 := HX.out.lt
 go_wp2_with fail
 repeat' first
   | (go_ret; exact ⟨⟨_, rfl⟩, HB1.out⟩)
   | (refine (HW.out _).mono ?_
      rintro e w2 ⟨⟨b, rfl⟩, hb2⟩
      have HB2 := Hd (bl_trans HB1.out hb2)
      clear hb2 e0 e3 e6
      go_wp2_with fail
      go_ret
      exact ⟨⟨_, rfl⟩, HB2.out⟩)
   | (refine (HR.out _).mono ?_
      rintro e w2 ⟨⟨b, rfl⟩, hb2⟩
      have HB2 := Hd (bl_trans HB1.out hb2)
      clear hb2 e0 e3 e6
      go_wp2_with fail
      go_ret
      exact ⟨⟨_, rfl⟩, HB2.out⟩)
   | (refine (HM.out _).mono ?_
      rintro e w2 ⟨hb2, ⟨rfl, hno⟩ | ⟨v, A, g, rfl, hok, hown⟩⟩
      · have HB2 := Hd (bl_trans HB1.out hb2)
        clear hb2 hno e0 e3 e6
        go_wp2_with fail
        go_ret
        exact ⟨⟨_, rfl⟩, HB2.out⟩
      · have HB2 := Hd (bl_trans HB1.out hb2)
        clear hb2 hok hown e0 e3 e6
        go_wp2_with fail
        go_ret
        exact ⟨⟨_, rfl⟩, HB2.out⟩)
   | (refine (HT.out _).mono ?_
      rintro e w2 ⟨⟨b, hbt, rfl⟩, hb2⟩
      have HB2 := Hd (bl_trans HB1.out hb2)
      have HX2 := Hd (HX.out.below hb2)
      clear hb2 hbt e0 e3 e6
      have e3 := HX2.out.cell 3
      have e6 := HX2.out.lt
      cases b with
      | false =>
        go_wp2_with fail
        go_ret
        exact ⟨⟨_, rfl⟩, HB2.out⟩
      | true =>
        go_wp2_with fail
        refine (HD.out _).mono ?_
        rintro e w3 ⟨⟨n, hn0, hn1, rfl⟩, hb3⟩
        have HB3 := Hd (bl_trans HB2.out hb3)
        clear hb3 e3 e6
        go_wp2_with fail
        go_ret
        exact ⟨⟨_, rfl⟩, HB3.out⟩)
end Go.Proofs.YtddbnboicmaooaaGreatDoor
