/-
  The walks of package ins: Jumps, ranged.
-/
import Derived.Test.YtokomofjcnefaaaDoorPIns
import Derived.Test.YtokomofjcnefaaaDoorDesc
namespace Go.Proofs.YtokomofjcnefaaaDoor
set_option linter.unusedVariables false
set_option linter.unusedSimpArgs false
open Go.RowKit Go.Shelf Go.Lib

theorem wrap64_32 (a : Int) : wrap64 (wrap32 a) = wrap32 a := by
  refine IntWalk.wrap64_in _ ?_
  unfold wrap32
  omega

set_option maxRecDepth 100000 in
theorem jumps_calls (op : Int) (w : World) : Calls Tryd.prog 97 #[.int .i64 op] w fun e w' => e = .returned (.bool (jumpsB op)) ∧ w' = w := by
  go_enter Tryd.func97, Tryd.ntmps97
  go_wp2_with fail
  all_goals go_ret
  all_goals refine ⟨ret_bool ?_, rfl⟩
  all_goals (rw [Bool.eq_iff_iff]; simp only [jumpsB, Bool.or_eq_true, Bool.and_eq_true, decide_eq_true_eq, beq_iff_eq, true_iff]; omega)

set_option maxRecDepth 100000 in
set_option maxHeartbeats 400000 in
theorem ranged_2 (a b : Int) (ty cl nm : List UInt8) (w : World) : Calls Tryd.prog 102 #[insV ⟨2, a, b, ty, cl, nm⟩] w fun e w' => e = .returned (.bool (rangedB ⟨2, a, b, ty, cl, nm⟩)) ∧ Below w.heap.size w w' := by
  unfold insV
  by_cases ht : ty = [73]
  · subst ht
    have hr : rangedB ⟨2, a, b, [73], cl, nm⟩ = (a == wrap32 a) := by simp [rangedB]
    have e1 : wrap64 (wrap32 a) = wrap32 a := wrap64_32 a
    rw [hr]
    clear hr
    go_enter Tryd.func102, Tryd.ntmps102
    go_wp2_with fail
    go_ret
    exact ⟨rfl, (Below.refl _ _).alloc (Nat.le_refl _) _⟩
  · have hr : rangedB ⟨2, a, b, ty, cl, nm⟩ = true := by simp [rangedB, ht]
    have e1 : (ty == [73]) = false := by rw [beq_eq_false_iff_ne]; exact ht
    rw [hr]
    clear hr ht
    go_enter Tryd.func102, Tryd.ntmps102
    go_wp2_with fail
    go_ret
    exact ⟨rfl, (Below.refl _ _).alloc (Nat.le_refl _) _⟩

set_option maxRecDepth 100000 in
set_option maxHeartbeats 400000 in
theorem ranged_45 (op a b : Int) (ty cl nm : List UInt8) (h : op = 4 ∨ op = 5) (w : World) : Calls Tryd.prog 102 #[insV ⟨op, a, b, ty, cl, nm⟩] w fun e w' => e = .returned (.bool (rangedB ⟨op, a, b, ty, cl, nm⟩)) ∧ Below w.heap.size w w' := by
  unfold insV
  rcases h with rfl | rfl
  all_goals go_enter Tryd.func102, Tryd.ntmps102
  all_goals go_wp2_with fail
  all_goals go_ret
  all_goals refine ⟨ret_bool ?_, (Below.refl _ _).alloc (Nat.le_refl _) _⟩
  all_goals (rw [Bool.eq_iff_iff]; simp [rangedB]; omega)

set_option maxRecDepth 100000 in
set_option maxHeartbeats 400000 in
theorem ranged_9 (a b : Int) (ty cl nm : List UInt8) (w : World) : Calls Tryd.prog 102 #[insV ⟨9, a, b, ty, cl, nm⟩] w fun e w' => e = .returned (.bool (rangedB ⟨9, a, b, ty, cl, nm⟩)) ∧ Below w.heap.size w w' := by
  unfold insV
  go_enter Tryd.func102, Tryd.ntmps102
  go_wp2_with fail
  all_goals go_ret
  all_goals refine ⟨ret_bool ?_, (Below.refl _ _).alloc (Nat.le_refl _) _⟩
  all_goals (rw [Bool.eq_iff_iff]; simp [rangedB]; omega)

set_option maxRecDepth 100000 in
set_option maxHeartbeats 400000 in
theorem ranged_rest (op a b : Int) (ty cl nm : List UInt8) (h2 : (op == 2) = false) (h4 : (op == 4) = false) (h5 : (op == 5) = false) (h9 : (op == 9) = false) (w : World) : Calls Tryd.prog 102 #[insV ⟨op, a, b, ty, cl, nm⟩] w fun e w' => e = .returned (.bool (rangedB ⟨op, a, b, ty, cl, nm⟩)) ∧ Below w.heap.size w w' := by
  have HJ := Lib.hid (fun w => jumps_calls op w)
  have e2 : op ≠ 2 := by simpa using h2
  have e4 : op ≠ 4 := by simpa using h4
  have e5 : op ≠ 5 := by simpa using h5
  have e9 : op ≠ 9 := by simpa using h9
  have HE := Lib.hid (And.intro e2 (And.intro e4 (And.intro e5 e9)))
  clear e2 e4 e5 e9
  unfold insV
  cases hj : jumpsB op
  · have HJJ := Lib.hid hj
    go_enter Tryd.func102, Tryd.ntmps102
    go_wp2_with fail
    refine (HJ.out _).mono ?_
    rintro e w1 ⟨rfl, rfl⟩
    go_wp2_with fail
    all_goals go_ret
    all_goals refine ⟨ret_bool ?_, (Below.refl _ _).alloc (Nat.le_refl _) _⟩
    all_goals (obtain ⟨e2, e4, e5, e9⟩ := HE.out; have := HJJ.out; rw [Bool.eq_iff_iff]; simp_all [rangedB])
  · have HJJ := Lib.hid hj
    go_enter Tryd.func102, Tryd.ntmps102
    go_wp2_with fail
    refine (HJ.out _).mono ?_
    rintro e w1 ⟨rfl, rfl⟩
    go_wp2_with fail
    all_goals go_ret
    all_goals refine ⟨ret_bool ?_, (Below.refl _ _).alloc (Nat.le_refl _) _⟩
    all_goals (obtain ⟨e2, e4, e5, e9⟩ := HE.out; have := HJJ.out; rw [Bool.eq_iff_iff]; simp_all [rangedB]; try omega)

theorem ranged_calls (x : InsR) (w : World) : Calls Tryd.prog 102 #[insV x] w fun e w' => e = .returned (.bool (rangedB x)) ∧ Below w.heap.size w w' := by
  obtain ⟨op, a, b, ty, cl, nm⟩ := x
  by_cases h2 : op = 2
  · subst h2; exact ranged_2 a b ty cl nm w
  by_cases h45 : op = 4 ∨ op = 5
  · exact ranged_45 op a b ty cl nm h45 w
  by_cases h9 : op = 9
  · subst h9; exact ranged_9 a b ty cl nm w
  exact ranged_rest op a b ty cl nm (by simpa using h2) (by simpa using fun h => h45 (Or.inl h)) (by simpa using fun h => h45 (Or.inr h)) (by simpa using h9) w
end Go.Proofs.YtokomofjcnefaaaDoor
