import Derived.Test.YtddbnboicmaooaaGreatDoorInsCheck
import Derived.Test.YtddbnboicmaooaaGreatDoorCode
namespace Go.Proofs.YtddbnboicmaooaaGreatDoor
set_option maxRecDepth 100000
set_option maxHeartbeats 16000000
set_option linter.unusedVariables false
set_option linter.unusedSimpArgs false
open Go.RowKit Go.Shelf Go.Lib
theorem ends_calls (op : Int) (w : World) : Calls Tryz.prog 196 #[.int .i64 op] w fun e w' => e = .returned (.bool (endsB op)) ∧ w = w' := by
 go_enter Tryz.func196, Tryz.ntmps196
 go_wp2_with fail
 all_goals go_ret
 all_goals refine ⟨ret_bool ?_, rfl⟩
 all_goals (rw [Bool.eq_iff_iff]; simp [endsB, or_assoc]; try omega)
theorem jumps_same (op : Int) (w : World) : Calls Tryz.prog 153 #[.int .i64 op] w fun e w' => e = .returned (.bool (jumpsB op)) ∧ w = w' := (jumps_calls op w).mono fun _ _ ⟨h1, h2⟩ => ⟨h1, h2.symm⟩
theorem firstErr_at : ∀ (l : List InsR) (k : Nat) (x : InsR), (∀ y ∈ l.take k, insErr y = 0) → l[k]? = some x → insErr x ≠ 0 → firstErr l = insErr x
 | [], k, x, _, h, _ => by simp at h
 | y :: l, 0, x, _, h, hx => by
   simp at h; subst h
   simp [firstErr, hx]
 | y :: l, k + 1, x, h, hk, hx => by
   have h1 := h y (by simp)
   simp only [firstErr, h1, if_true]
   exact firstErr_at l k x (fun z hz => h z (by simp [hz])) (by simpa using hk) hx
theorem take_all_succ {α : Type} {P : α → Prop} {l : List α} {k : Nat} {x : α} (h : ∀ y ∈ l.take k, P y) (hx : l[k]? = some x) (hp : P x) : ∀ y ∈ l.take (k + 1), P y := by
 obtain ⟨hk, rfl⟩ := List.getElem?_eq_some_iff.1 hx
 intro y hy
 rw [List.take_succ_eq_append_getElem hk] at hy
 rcases List.mem_append.1 hy with h1 | h1
 · exact h y h1
 · simp at h1; rw [h1]; exact hp
theorem flowCheck_calls (l : List InsR) (a : Option Addr) (cap : Nat) (w : World) (hC : CodeAt w a cap l) (hF : FormsAt w) (hT : ∀ x ∈ l, x.ty.length ≤ 8388608) :
   Calls Tryz.prog 226 #[.slice a l.length cap] w fun e w' => e = .returned (errOf (flowErr l)) ∧ Below w.heap.size w w' := by
 by_cases h40 : 40 < l.length
 · have hr : flowErr l = 4 := by unfold flowErr; rw [if_pos h40]
   rw [hr]
   clear hr
   go_enter Tryz.func226, Tryz.ntmps226
   go_wp2_with fail
   go_ret
   exact ⟨rfl, Below.refl _ _⟩
 generalize hE : errOf (flowErr l) = E
 have HE := Hd hE
 have HC := Hd hC
 have HF := Hd hF
 have HT := Hd hT
 have h40' : l.length ≤ 40 := by omega
 clear hE hC hF hT h40
 go_enter Tryz.func226, Tryz.ntmps226
 go_wp2_with fail
 go_loopw [14] (fun i wr => ∃ k : Nat, k ≤ l.length ∧ i = .int .i64 k ∧ Below w.heap.size w wr ∧ Hid (∀ y ∈ l.take k, insErr y = 0)) (fun i _ => l.length - (RowKit.intOf i).toNat)
 case atStart => exact ⟨0, by omega, rfl, Below.refl _ _, Hd (by simp)⟩
 case round =>
   obtain ⟨k, hk, rfl, hwr, hz⟩ := hrel
   have HW := Hd hwr
   clear hwr
   by_cases hlk : k < l.length
   · obtain ⟨x, hx⟩ : ∃ x, l[k]? = some x := ⟨_, List.getElem?_eq_getElem hlk⟩
     have hcw := HC.out.below HW.out
     obtain ⟨b, off, rfl, hlt, c0, c1, c2, c3, c4, c5⟩ := hcw.cells hx
     have HX := Hd hx
     have hxl := HT.out x (List.mem_of_getElem? hx)
     have HFW := Hd (HF.out.below HW.out)
     clear hx hcw
     by_cases he : insErr x = 0
     · have HK := Hd (fun w hF => ins_ok x hxl w hF he)
       have HN := Hd (take_all_succ hz HX.out he)
       clear hz he
       unfold insV at HK
       go_wp2_with fail
       refine (HK.out _ (HFW.out.below ((Below.refl _ _).alloc (Nat.le_refl _) _))).mono ?_
       rintro e w1 ⟨rfl, hb1⟩
       go_wp2_with fail
       go_roundw
       case rel => exact ⟨k + 1, by omega, by go_num, bl_trans HW.out (new_below hb1), HN.out⟩
       case measure => simp [RowKit.intOf]; omega
     · have HK := Hd (fun w hF => ins_bad x hxl w hF he)
       have hr : flowErr l = insErr x := by
         have h1 := firstErr_at l k x hz HX.out he
         unfold flowErr
         rw [if_neg (by omega), h1, if_pos he]
       have HEE := Hd (show E = errV (insErr x) by rw [← HE.out, hr]; unfold errOf; rw [if_neg he])
       clear hz he hr
       unfold insV at HK
       go_wp2_with fail
       refine (HK.out _ (HFW.out.below ((Below.refl _ _).alloc (Nat.le_refl _) _))).mono ?_
       rintro e w1 ⟨rfl, hb1⟩
       go_wp2_with fail
       go_ret
       exact ⟨by rw [HEE.out]; rfl, bl_trans HW.out (new_below hb1)⟩
   · obtain rfl : k = l.length := by omega
     rw [List.take_length] at hz
     have HZ := Hd ((firstErr_zero l).2 hz)
     clear hz hlk
     go_wp2_with fail
     go_loopw [26] (fun i wq => ∃ k : Nat, k ≤ l.length ∧ i = .int .i64 k ∧ Below w.heap.size w wq ∧ Hid (∀ y ∈ l.take k, ¬ (jumpsB y.op = true ∧ (l.length : Int) ≤ y.a))) (fun i _ => l.length - (RowKit.intOf i).toNat)
     case atStart => exact ⟨0, by omega, rfl, HW.out, Hd (by simp)⟩
     case round =>
       obtain ⟨k, hk, rfl, hwr, hz⟩ := hrel
       have HW2 := Hd hwr
       clear hwr HW
       have HZZ := Hd hz
       clear hz
       by_cases hlk : k < l.length
       · obtain ⟨x, hx⟩ : ∃ x, l[k]? = some x := ⟨_, List.getElem?_eq_getElem hlk⟩
         have hcw := HC.out.below HW2.out
         obtain ⟨b, off, rfl, hlt, c0, c1, c2, c3, c4, c5⟩ := hcw.cells hx
         have HX := Hd hx
         clear hx hcw
         have HJ := Hd (fun w => jumps_same x.op w)
         cases hj : jumpsB x.op with
         | false =>
           have HN := Hd (take_all_succ HZZ.out.out HX.out (by rw [hj]; simp))
           rw [hj] at HJ
           clear hj HZZ
           go_wp2_with fail
           refine (HJ.out _).mono ?_
           rintro e w1 ⟨rfl, rfl⟩
           go_wp2_with fail
           go_roundw
           case rel => exact ⟨k + 1, by omega, by go_num, HW2.out.alloc (HW2.out.size) _, HN.out⟩
           case measure => simp [RowKit.intOf]; omega
         | true =>
           rw [hj] at HJ
           by_cases hge : (l.length : Int) ≤ x.a
           · have hr : flowErr l = 2 := by
               unfold flowErr
               rw [if_neg (by omega), HZ.out, if_neg (by simp), if_pos]
               rw [List.any_eq_true]
               exact ⟨x, List.mem_of_getElem? HX.out, by rw [hj]; simpa using hge⟩
             have HEE := Hd (show E = errV 2 by rw [← HE.out, hr]; rfl)
             clear hr hj HZZ
             go_wp2_with fail
             refine (HJ.out _).mono ?_
             rintro e w1 ⟨rfl, rfl⟩
             go_wp2_with fail
             go_ret
             exact ⟨by rw [HEE.out]; rfl, HW2.out.alloc (HW2.out.size) _⟩
           · have HN := Hd (take_all_succ HZZ.out.out HX.out (by intro h; exact hge h.2))
             have hlt2 : x.a < (l.length : Int) := by omega
             clear hge hj HZZ
             go_wp2_with fail
             refine (HJ.out _).mono ?_
             rintro e w1 ⟨rfl, rfl⟩
             go_wp2_with fail
             go_roundw
             case rel => exact ⟨k + 1, by omega, by go_num, HW2.out.alloc (HW2.out.size) _, HN.out⟩
             case measure => simp [RowKit.intOf]; omega
       · obtain rfl : k = l.length := by omega
         have hz2 := HZZ.out.out
         rw [List.take_length] at hz2
         have hany : l.any (fun x => jumpsB x.op && decide ((l.length : Int) ≤ x.a)) = false := by
           rw [List.any_eq_false]
           intro x hx h
           simp only [Bool.and_eq_true, decide_eq_true_eq] at h
           exact hz2 x hx h
         have hr : flowErr l = if endOk l then 0 else 8 := by
           unfold flowErr
           rw [if_neg (by omega), HZ.out, if_neg (by simp), hany, if_neg (by simp)]
         have HR := Hd hr
         clear hr hany hz2 HZZ hlk
         by_cases hl : l = []
         · have HEE := Hd (show E = errV 8 by rw [← HE.out, HR.out, hl]; rfl)
           subst hl
           go_wp2_with fail
           go_ret
           exact ⟨by rw [HEE.out]; rfl, HW2.out⟩
         · have hpos : 0 < l.length := List.length_pos_iff.2 hl
           obtain ⟨x, hx⟩ : ∃ x, l[l.length - 1]? = some x := ⟨_, List.getElem?_eq_getElem (by omega)⟩
           have hcw := HC.out.below HW2.out
           obtain ⟨b, off, rfl, hlt, c0, c1, c2, c3, c4, c5⟩ := hcw.cells hx
           have hlast : endOk l = endsB x.op := by unfold endOk; rw [List.getLast?_eq_getElem?, hx]
           have HEE := Hd (show E = if endsB x.op then .nilIface else errV 8 by
             rw [← HE.out, HR.out, hlast]
             cases endsB x.op <;> rfl)
           have HJ := Hd (fun w => ends_calls x.op w)
           clear hx hlast hcw
           cases he : endsB x.op with
           | false =>
             rw [he] at HJ HEE
             clear he
             go_wp2_with fail
             refine (HJ.out _).mono ?_
             rintro e w1 ⟨rfl, rfl⟩
             go_wp2_with fail
             go_ret
             exact ⟨by rw [HEE.out]; rfl, HW2.out⟩
           | true =>
             rw [he] at HJ HEE
             clear he
             go_wp2_with fail
             refine (HJ.out _).mono ?_
             rintro e w1 ⟨rfl, rfl⟩
             go_wp2_with fail
             go_ret
             exact ⟨by rw [HEE.out]; rfl, HW2.out⟩
end Go.Proofs.YtddbnboicmaooaaGreatDoor
