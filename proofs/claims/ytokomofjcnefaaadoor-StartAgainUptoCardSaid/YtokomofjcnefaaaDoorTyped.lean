/-
  The walks of desc.Number and ins.typed.
-/
import Derived.Test.YtokomofjcnefaaaDoorPIns
import Derived.Test.YtokomofjcnefaaaDoorDesc
import Derived.Test.YtokomofjcnefaaaDoorMeth
import Derived.Test.YtokomofjcnefaaaDoorSmall
namespace Go.Proofs.YtokomofjcnefaaaDoor
set_option linter.unusedVariables false
set_option linter.unusedSimpArgs false
open Go.RowKit Go.Shelf Go.Lib

set_option maxRecDepth 100000 in
theorem number_calls (t : List UInt8) (w : World) : Calls Tryd.prog 105 #[.string ⟨⟨t⟩⟩] w fun e w' => e = .returned (.bool (numB t)) ∧ w = w' := by
  by_cases h1 : t = [73]
  · subst h1
    go_enter Tryd.func105, Tryd.ntmps105
    go_wp2_with fail
    go_ret
    exact ⟨rfl, rfl⟩
  by_cases h2 : t = [74]
  · subst h2
    go_enter Tryd.func105, Tryd.ntmps105
    go_wp2_with fail
    go_ret
    exact ⟨rfl, rfl⟩
  have q1 : (t == [73]) = false := by rw [beq_eq_false_iff_ne]; exact h1
  have q2 : (t == [74]) = false := by rw [beq_eq_false_iff_ne]; exact h2
  have HN : Hid (numB t = false) := by unfold numB; rw [q1, q2]; rfl
  clear h1 h2
  go_enter Tryd.func105, Tryd.ntmps105
  go_wp2_with fail
  go_ret
  exact ⟨ret_bool HN.out.symm, rfl⟩

def TypedAt (x : InsR) (w : World) : Prop := Calls Tryd.prog 103 #[insV x] w fun e w' => e = .returned (.bool (typedB x)) ∧ Below w.heap.size w w'

set_option maxRecDepth 100000 in
set_option maxHeartbeats 400000 in
theorem typed_num (op a b : Int) (ty cl nm : List UInt8) (h : op = 2 ∨ op = 9 ∨ op = 10) (w : World) : TypedAt ⟨op, a, b, ty, cl, nm⟩ w := by
  have ht : typedB ⟨op, a, b, ty, cl, nm⟩ = numB ty := by unfold typedB; rw [if_pos h]
  unfold TypedAt
  rw [ht]
  clear ht
  unfold insV
  rcases h with rfl | rfl | rfl
  all_goals
    go_enter Tryd.func103, Tryd.ntmps103
    go_wp2_with fail
    refine (number_calls ty _).mono ?_
    rintro e w1 ⟨rfl, rfl⟩
    go_wp2_with fail
    go_ret
    exact ⟨rfl, (Below.refl _ _).alloc (Nat.le_refl _) _⟩

set_option maxRecDepth 100000 in
set_option maxHeartbeats 1000000 in
theorem typed_arr (op a b : Int) (ty cl nm : List UInt8) (hl : ty.length ≤ 8388608) (h : op = 18 ∨ op = 20 ∨ op = 21) (w : World) : TypedAt ⟨op, a, b, ty, cl, nm⟩ w := by
  classical
  have ht : typedB ⟨op, a, b, ty, cl, nm⟩ = (decide (TypeOk ty) && decide (TypeOk (91 :: ty))) := by
    unfold typedB; simp only; rw [if_neg (by omega), if_pos h]
  unfold TypedAt
  by_cases h1 : TypeOk ty
  · have H1 := Lib.hid (fun w => check_ok ty h1 w)
    by_cases h2 : TypeOk (91 :: ty)
    · have H2 := Lib.hid (fun w => check_ok (91 :: ty) h2 w)
      have hr : typedB ⟨op, a, b, ty, cl, nm⟩ = true := by rw [ht]; simp [h1, h2]
      rw [hr]
      clear ht hr h1 h2
      unfold insV
      rcases h with rfl | rfl | rfl
      all_goals
        go_enter Tryd.func103, Tryd.ntmps103
        go_wp2_with fail
        refine (H1.out _).mono ?_
        rintro e w1 ⟨rfl, hb1⟩
        obtain ⟨hc, hf⟩ := bcell hb1
        go_wp2_with fail
        refine (H2.out _).mono ?_
        rintro e w2 ⟨rfl, hb2⟩
        go_wp2_with fail
        go_ret
        exact ⟨rfl, new_below (bl_trans hb1 hb2)⟩
    · have H2 := Lib.hid (fun w => check_bad (91 :: ty) h2 (by simp only [List.length_cons]; omega) w)
      have hr : typedB ⟨op, a, b, ty, cl, nm⟩ = false := by rw [ht]; simp [h2]
      rw [hr]
      clear ht hr h1 h2
      unfold insV
      rcases h with rfl | rfl | rfl
      all_goals
        go_enter Tryd.func103, Tryd.ntmps103
        go_wp2_with fail
        refine (H1.out _).mono ?_
        rintro e w1 ⟨rfl, hb1⟩
        obtain ⟨hc, hf⟩ := bcell hb1
        go_wp2_with fail
        refine (H2.out _).mono ?_
        rintro e w2 ⟨rfl, hb2⟩
        go_wp2_with fail
        go_ret
        exact ⟨rfl, new_below (bl_trans hb1 hb2)⟩
  · have H1 := Lib.hid (fun w => check_bad ty h1 (by omega) w)
    have hr : typedB ⟨op, a, b, ty, cl, nm⟩ = false := by rw [ht]; simp [h1]
    rw [hr]
    clear ht hr h1
    unfold insV
    rcases h with rfl | rfl | rfl
    all_goals
      go_enter Tryd.func103, Tryd.ntmps103
      go_wp2_with fail
      refine (H1.out _).mono ?_
      rintro e w1 ⟨rfl, hb1⟩
      go_wp2_with fail
      go_ret
      exact ⟨rfl, new_below hb1⟩

set_option maxRecDepth 100000 in
set_option maxHeartbeats 1000000 in
theorem typed_cast (op a b : Int) (ty cl nm : List UInt8) (hl : ty.length ≤ 8388608) (h : op = 22 ∨ op = 23) (w : World) : TypedAt ⟨op, a, b, ty, cl, nm⟩ w := by
  classical
  have ht : typedB ⟨op, a, b, ty, cl, nm⟩ = (decide (TypeOk ty) && !(numB ty)) := by
    unfold typedB; simp only; rw [if_neg (by omega), if_neg (by omega), if_pos h]
  unfold TypedAt
  by_cases h1 : TypeOk ty
  · have H1 := Lib.hid (fun w => check_ok ty h1 w)
    have hr : typedB ⟨op, a, b, ty, cl, nm⟩ = !(numB ty) := by rw [ht]; simp [h1]
    rw [hr]
    clear ht hr h1
    unfold insV
    rcases h with rfl | rfl
    all_goals
      go_enter Tryd.func103, Tryd.ntmps103
      go_wp2_with fail
      refine (H1.out _).mono ?_
      rintro e w1 ⟨rfl, hb1⟩
      obtain ⟨hc, hf⟩ := bcell hb1
      go_wp2_with fail
      refine (number_calls ty _).mono ?_
      rintro e w2 ⟨rfl, rfl⟩
      go_wp2_with fail
      go_ret
      exact ⟨rfl, new_below hb1⟩
  · have H1 := Lib.hid (fun w => check_bad ty h1 (by omega) w)
    have hr : typedB ⟨op, a, b, ty, cl, nm⟩ = false := by rw [ht]; simp [h1]
    rw [hr]
    clear ht hr h1
    unfold insV
    rcases h with rfl | rfl
    all_goals
      go_enter Tryd.func103, Tryd.ntmps103
      go_wp2_with fail
      refine (H1.out _).mono ?_
      rintro e w1 ⟨rfl, hb1⟩
      go_wp2_with fail
      go_ret
      exact ⟨rfl, new_below hb1⟩

set_option maxRecDepth 100000 in
set_option maxHeartbeats 1000000 in
theorem typed_call (op a b : Int) (ty cl nm : List UInt8) (hl : ty.length ≤ 8388608) (h : op = 24 ∨ op = 25) (w : World) : TypedAt ⟨op, a, b, ty, cl, nm⟩ w := by
  classical
  have ht : typedB ⟨op, a, b, ty, cl, nm⟩ = decide (∃ A g, MethodOk ty A g) := by
    unfold typedB; simp only; rw [if_neg (by omega), if_neg (by omega), if_neg (by omega), if_pos h]
  unfold TypedAt
  have HT := Lib.hid ht
  clear ht
  unfold insV
  rcases h with rfl | rfl
  all_goals
    go_enter Tryd.func103, Tryd.ntmps103
    go_wp2_with fail
    refine (method_calls ty hl _).mono ?_
    rintro e w1 ⟨hb1, ⟨rfl, hno⟩ | ⟨v, A, g, rfl, hA, hown⟩⟩
    · have HN := Lib.hid hno
      clear hno
      go_wp2_with fail
      go_ret
      refine ⟨ret_bool ?_, new_below hb1⟩
      rw [HT.out, eq_comm, decide_eq_false_iff_not]
      exact fun ⟨A, g, h⟩ => HN.out A g h
    · have HN := Lib.hid hA
      clear hA hown
      go_wp2_with fail
      go_ret
      refine ⟨ret_bool ?_, new_below hb1⟩
      rw [HT.out, eq_comm, decide_eq_true_eq]
      exact ⟨A, g, HN.out⟩

set_option maxRecDepth 100000 in
set_option maxHeartbeats 1000000 in
theorem typed_rest (op a b : Int) (ty cl nm : List UInt8) (h : ¬ (op = 2 ∨ op = 9 ∨ op = 10) ∧ ¬ (op = 18 ∨ op = 20 ∨ op = 21) ∧ ¬ (op = 22 ∨ op = 23) ∧ ¬ (op = 24 ∨ op = 25)) (w : World) : TypedAt ⟨op, a, b, ty, cl, nm⟩ w := by
  have ht : typedB ⟨op, a, b, ty, cl, nm⟩ = true := by
    unfold typedB; simp only; rw [if_neg h.1, if_neg h.2.1, if_neg h.2.2.1, if_neg h.2.2.2]
  unfold TypedAt
  rw [ht]
  have e1 : (op == 2) = false := by rw [beq_eq_false_iff_ne]; omega
  have e2 : (op == 9) = false := by rw [beq_eq_false_iff_ne]; omega
  have e3 : (op == 10) = false := by rw [beq_eq_false_iff_ne]; omega
  have e4 : (op == 18) = false := by rw [beq_eq_false_iff_ne]; omega
  have e5 : (op == 20) = false := by rw [beq_eq_false_iff_ne]; omega
  have e6 : (op == 21) = false := by rw [beq_eq_false_iff_ne]; omega
  have e7 : (op == 22) = false := by rw [beq_eq_false_iff_ne]; omega
  have e8 : (op == 23) = false := by rw [beq_eq_false_iff_ne]; omega
  have e9 : (op == 24) = false := by rw [beq_eq_false_iff_ne]; omega
  have e10 : (op == 25) = false := by rw [beq_eq_false_iff_ne]; omega
  clear ht h
  unfold insV
  go_enter Tryd.func103, Tryd.ntmps103
  go_wp2_with fail
  go_ret
  exact ⟨rfl, (Below.refl _ _).alloc (Nat.le_refl _) _⟩

theorem typed_calls (x : InsR) (hl : x.ty.length ≤ 8388608) (w : World) : Calls Tryd.prog 103 #[insV x] w fun e w' => e = .returned (.bool (typedB x)) ∧ Below w.heap.size w w' := by
  obtain ⟨op, a, b, ty, cl, nm⟩ := x
  by_cases h1 : op = 2 ∨ op = 9 ∨ op = 10
  · exact typed_num op a b ty cl nm h1 w
  by_cases h2 : op = 18 ∨ op = 20 ∨ op = 21
  · exact typed_arr op a b ty cl nm hl h2 w
  by_cases h3 : op = 22 ∨ op = 23
  · exact typed_cast op a b ty cl nm hl h3 w
  by_cases h4 : op = 24 ∨ op = 25
  · exact typed_call op a b ty cl nm hl h4 w
  exact typed_rest op a b ty cl nm ⟨h1, h2, h3, h4⟩ w
end Go.Proofs.YtokomofjcnefaaaDoor
