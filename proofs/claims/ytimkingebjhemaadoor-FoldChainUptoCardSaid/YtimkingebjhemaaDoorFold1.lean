/-
  The walks of num.Word, num.Of at a sum of two ints, of fold.push.
-/
import Derived.Test.YtimkingebjhemaaDoorPFold
import Derived.Test.YtimkingebjhemaaDoorInsBase
namespace Go.Proofs.YtimkingebjhemaaDoor
set_option linter.unusedVariables false
set_option linter.unusedSimpArgs false
open Go.RowKit Go.Shelf Go.Lib

set_option maxRecDepth 100000 in
set_option maxHeartbeats 1000000 in
theorem word_calls (a : Int) (w : World) : Calls Tryd.prog 47 #[.int .i64 a] w fun e w' => e = .returned (.int .i64 (wrap32 a)) ∧ w = w' := by
  go_enter Tryd.func47, Tryd.ntmps47
  go_wp2_with fail
  go_ret
  exact ⟨by simp [wrap32]; unfold wrap64; omega, rfl⟩

set_option maxRecDepth 100000 in
set_option maxHeartbeats 1000000 in
theorem whole_add (a b : Int) (h : -9223372036854775808 ≤ a + b ∧ a + b ≤ 9223372036854775807) (w : World) : Calls Tryd.prog 79 #[.int .i64 1, .int .i64 a, .int .i64 b] w fun e w' => e = .returned (.tuple #[.int .i64 (a + b), .bool true]) ∧ w = w' := by
  have hw : wrap64 (a + b) = a + b := by unfold wrap64; omega
  go_enter Tryd.func79, Tryd.ntmps79
  go_wp2_with fail
  go_ret2
  exact ⟨rfl, rfl⟩

set_option maxRecDepth 100000 in
set_option maxHeartbeats 1000000 in
theorem of_add (a b : Int) (ha : wrap32 a = a) (hb : wrap32 b = b) (w : World) : Calls Tryd.prog 64 #[.string ⟨⟨[73]⟩⟩, .int .i64 1, .int .i64 a, .int .i64 b] w fun e w' => e = .returned (.tuple #[.int .i64 (wrap32 (a + b)), .bool true]) ∧ w = w' := by
  have HW := Lib.hid (fun w => whole_add a b (by unfold wrap32 at ha hb; omega) w)
  have HWD := Lib.hid (fun x w => word_calls x w)
  clear ha hb
  go_enter Tryd.func64, Tryd.ntmps64
  go_wp2_with fail
  refine (HW.out _).mono ?_
  rintro e w2 ⟨rfl, rfl⟩
  go_wp2_with fail
  refine (HWD.out _ _).mono ?_
  rintro e w2 ⟨rfl, rfl⟩
  go_wp2_with fail
  go_ret2
  exact ⟨rfl, rfl⟩

set_option maxRecDepth 100000 in
set_option maxHeartbeats 1000000 in
theorem push_calls (x : InsR) (t : List UInt8) (w : World) : Calls Tryd.prog 63 #[insV x, .string ⟨⟨t⟩⟩] w fun e w' => e = .returned (.bool (decide (x.op = 2) && (x.ty == t))) ∧ Below w.heap.size w w' := by
  have HB := Lib.hid (fun o => (Below.refl w.heap.size w).alloc (Nat.le_refl _) o)
  unfold insV
  by_cases h : x.op = 2
  · rw [h]
    go_enter Tryd.func63, Tryd.ntmps63
    go_wp2_with fail
    go_ret
    exact ⟨rfl, HB.out _⟩
  · have h' : (x.op == 2) = false := by rw [beq_eq_false_iff_ne]; exact h
    go_enter Tryd.func63, Tryd.ntmps63
    go_wp2_with fail
    go_ret
    exact ⟨by simp [h], HB.out _⟩
end Go.Proofs.YtimkingebjhemaaDoor
