/-
  NumLogic: De Morgan's law and the inverse of exclusive disjunction at 64 bits, by the walk of num.Math.
-/
import Derived.Test.YtnamnihdbemkhaaDoorName
import Derived.Test.YtnamnihdbemkhaaDoorPBits
namespace Go.Proofs.YtnamnihdbemkhaaDoor
set_option linter.unusedVariables false
set_option linter.unusedSimpArgs false
open Go.RowKit Go.Shelf Go.Lib

set_option maxHeartbeats 400000 in
theorem math_J_and (a b : Int) (w : World) :
    Calls Tryd.prog 23 #[.string ⟨#[74]⟩, .int .i64 6, .int .i64 a, .int .i64 b] w fun e w' => e = .returned (.tuple #[.int .i64 (bits .and .i64 a b), .nilIface]) ∧ w = w' := by
  go_enter Tryd.func23, Tryd.ntmps23
  go_wp2
  go_ret2
  exact ⟨rfl, rfl⟩
set_option maxHeartbeats 400000 in
theorem math_J_or (a b : Int) (w : World) :
    Calls Tryd.prog 23 #[.string ⟨#[74]⟩, .int .i64 7, .int .i64 a, .int .i64 b] w fun e w' => e = .returned (.tuple #[.int .i64 (bits .or .i64 a b), .nilIface]) ∧ w = w' := by
  go_enter Tryd.func23, Tryd.ntmps23
  go_wp2
  go_ret2
  exact ⟨rfl, rfl⟩
set_option maxHeartbeats 400000 in
theorem math_J_xor (a b : Int) (w : World) :
    Calls Tryd.prog 23 #[.string ⟨#[74]⟩, .int .i64 8, .int .i64 a, .int .i64 b] w fun e w' => e = .returned (.tuple #[.int .i64 (bits .xor .i64 a b), .nilIface]) ∧ w = w' := by
  go_enter Tryd.func23, Tryd.ntmps23
  go_wp2
  go_ret2
  exact ⟨rfl, rfl⟩
set_option maxHeartbeats 400000 in
theorem math_J_add (a b : Int) (w : World) :
    Calls Tryd.prog 23 #[.string ⟨#[74]⟩, .int .i64 1, .int .i64 a, .int .i64 b] w fun e w' => e = .returned (.tuple #[.int .i64 (wrap64 (a + b)), .nilIface]) ∧ w = w' := by
  go_enter Tryd.func23, Tryd.ntmps23
  go_wp2
  go_ret2
  exact ⟨rfl, rfl⟩

theorem numLogic.core (a b : Int) (h0 : -9223372036854775808 ≤ a) (h1 : a ≤ 9223372036854775807) (w : World) :
    Calls Tryd.prog 7 #[.int .i64 a, .int .i64 b] w fun e w' => e = .returned (.bool true) ∧ Below w.heap.size w w' := by
  have H1 := Lib.hid (demorgan a b)
  have H2 := Lib.hid (xor_back a b h0 h1)
  have H3 := Lib.hid (xor_and_sum a b)
  clear h0 h1
  go_enter Tryd.func7, Tryd.ntmps7
  go_wp2_with fail
  refine (named_true _).mono ?_
  rintro e w1 ⟨rfl, hb⟩
  go_wp2_with fail
  refine (math_J_and _ _ _).mono ?_
  rintro e w2 ⟨rfl, rfl⟩
  go_wp2_with fail
  refine (math_J_or _ _ _).mono ?_
  rintro e w2 ⟨rfl, rfl⟩
  go_wp2_with fail
  refine (math_J_xor _ _ _).mono ?_
  rintro e w2 ⟨rfl, rfl⟩
  go_wp2_with fail
  refine (math_J_xor _ _ _).mono ?_
  rintro e w2 ⟨rfl, rfl⟩
  go_wp2_with fail
  refine (math_J_xor _ _ _).mono ?_
  rintro e w2 ⟨rfl, rfl⟩
  go_wp2_with fail
  refine (math_J_xor _ _ _).mono ?_
  rintro e w2 ⟨rfl, rfl⟩
  go_wp2_with fail
  refine (math_J_or _ _ _).mono ?_
  rintro e w2 ⟨rfl, rfl⟩
  go_wp2_with fail
  refine (math_J_xor _ _ _).mono ?_
  rintro e w2 ⟨rfl, rfl⟩
  go_wp2_with fail
  refine (math_J_add _ _ _).mono ?_
  rintro e w2 ⟨rfl, rfl⟩
  rw [H1.out, H2.out, H3.out]
  go_wp2_with fail
  go_ret
  exact ⟨ret_bool (by simp), hb⟩

theorem numLogic.walk (a : Int) (ha : (Lit.int .i64 a).wf = true) (b : Int) (hb : (Lit.int .i64 b).wf = true) (w : World) {L S : Prop} (_ : L) (_ : S) :
    Calls Tryd.prog 7 #[.int .i64 a, .int .i64 b] w fun e w' => e = .returned (.bool true) ∧ Below w.heap.size w w' := by
  have h : -9223372036854775808 ≤ a ∧ a ≤ 9223372036854775807 := by simpa [Lit.wf, IntKind.min, IntKind.max, IntKind.signed, IntKind.bits] using ha
  exact numLogic.core a b h.1 h.2 w
end Go.Proofs.YtnamnihdbemkhaaDoor
