/-
  NumTurns: negation is its own inverse and subtraction is addition of the negated number at 32 bits, by the walks of num.Math, num.Conv and the reference's Wrap.
-/
import Derived.Test.YtnamnihdbemkhaaDoorName
import Derived.Test.YtnamnihdbemkhaaDoorPWrap
namespace Go.Proofs.YtnamnihdbemkhaaDoor
set_option linter.unusedVariables false
set_option linter.unusedSimpArgs false
open Go.RowKit Go.Shelf Go.Lib

set_option maxHeartbeats 400000 in
theorem wrap_calls (n : Int) (w : World) (h0 : -9223372036854775808 ≤ n) (h1 : n ≤ 9223372036854775807) :
    Calls Tryd.prog 24 #[.int .i64 n] w fun e w' => e = .returned (.int .i64 (wrap32 n)) ∧ w = w' := by
  have H0 := Lib.hid h0
  have H1 := Lib.hid h1
  clear h0 h1
  go_enter Tryd.func24, Tryd.ntmps24
  go_wp2
  all_goals go_ret
  · exact ⟨ret_int (wrap_way1 n H0.out H1.out (by assumption) (by assumption)), rfl⟩
  · exact ⟨ret_int (wrap_way2 n H0.out H1.out (by assumption) (by assumption)), rfl⟩
  · exact ⟨ret_int (wrap_way3 n H0.out H1.out (by assumption) (by assumption)), rfl⟩
  · exact ⟨ret_int (wrap_way4 n H0.out H1.out (by assumption) (by assumption)), rfl⟩

theorem wrap32_of64 (n : Int) : wrap32 (wrap64 n) = wrap32 n := by
  rw [wrap32k, wrap32k]; unfold wrap64; omega

theorem word_any (a : Int) (w : World) : Calls Tryd.prog 41 #[.int .i64 a] w fun e w' => e = .returned (.int .i64 (wrap32 a)) ∧ w = w' := by
  go_enter Tryd.func41, Tryd.ntmps41
  go_wp2
  go_ret
  exact ⟨ret_int (wrap64_32 a), rfl⟩
theorem word_same (a : Int) (w : World) (h : Hid (wrap32 a = a)) : Calls Tryd.prog 41 #[.int .i64 a] w fun e w' => e = .returned (.int .i64 a) ∧ w = w' :=
  (word_any a w).mono fun e w' ⟨h1, h2⟩ => ⟨by rw [h1, h.out], h2⟩
theorem number_I (w : World) : Calls Tryd.prog 40 #[.string ⟨#[73]⟩] w fun e w' => e = .returned (.bool true) ∧ w = w' := by
  go_enter Tryd.func40, Tryd.ntmps40
  go_wp2
  go_ret
  exact ⟨rfl, rfl⟩
theorem whole_neg (a b : Int) (w : World) : Calls Tryd.prog 63 #[.int .i64 12, .int .i64 a, .int .i64 b] w fun e w' => e = .returned (.tuple #[.int .i64 (wrap64 (-a)), .bool true]) ∧ w = w' := by
  go_enter Tryd.func63, Tryd.ntmps63
  go_wp2
  go_ret2
  exact ⟨rfl, rfl⟩
theorem whole_sub (a b : Int) (w : World) : Calls Tryd.prog 63 #[.int .i64 2, .int .i64 a, .int .i64 b] w fun e w' => e = .returned (.tuple #[.int .i64 (wrap64 (a - b)), .bool true]) ∧ w = w' := by
  go_enter Tryd.func63, Tryd.ntmps63
  go_wp2
  go_ret2
  exact ⟨rfl, rfl⟩
theorem whole_add (a b : Int) (w : World) : Calls Tryd.prog 63 #[.int .i64 1, .int .i64 a, .int .i64 b] w fun e w' => e = .returned (.tuple #[.int .i64 (wrap64 (a + b)), .bool true]) ∧ w = w' := by
  go_enter Tryd.func63, Tryd.ntmps63
  go_wp2
  go_ret2
  exact ⟨rfl, rfl⟩
/-- num.Of at 32 bits, by what whole gives -/
theorem of_I (k v a b : Int) (hk : k < 9 ∨ 11 < k) (hw : ∀ w, Calls Tryd.prog 63 #[.int .i64 k, .int .i64 a, .int .i64 b] w fun e w' => e = .returned (.tuple #[.int .i64 (wrap64 v), .bool true]) ∧ w = w') (w : World) :
    Calls Tryd.prog 42 #[.string ⟨#[73]⟩, .int .i64 k, .int .i64 a, .int .i64 b] w fun e w' => e = .returned (.tuple #[.int .i64 (wrap32 v), .bool true]) ∧ w = w' := by
  have HW := Lib.hid hw
  clear hw
  rcases hk with hk | hk
  all_goals
    go_enter Tryd.func42, Tryd.ntmps42
    go_wp2_with fail
    refine (HW.out _).mono ?_
    rintro e w1 ⟨rfl, rfl⟩
    go_wp2_with fail
    refine (word_any _ _).mono ?_
    rintro e w1 ⟨rfl, rfl⟩
    rw [wrap32_of64]
    go_wp2_with fail
    go_ret2
    exact ⟨rfl, rfl⟩
theorem math_I (k v a b : Int) (h0 : 1 ≤ k) (h1 : k ≤ 12) (hk : k < 9 ∨ 11 < k) (hw : ∀ w, Calls Tryd.prog 63 #[.int .i64 k, .int .i64 a, .int .i64 b] w fun e w' => e = .returned (.tuple #[.int .i64 (wrap64 v), .bool true]) ∧ w = w') (w : World)
    (h : Hid (wrap32 a = a)) (h' : Hid (wrap32 b = b)) :
    Calls Tryd.prog 23 #[.string ⟨#[73]⟩, .int .i64 k, .int .i64 a, .int .i64 b] w fun e w' => e = .returned (.tuple #[.int .i64 (wrap32 v), .nilIface]) ∧ w = w' := by
  have HO := Lib.hid (of_I k v a b hk hw)
  clear hw
  rcases hk with hk | hk
  all_goals
    go_enter Tryd.func23, Tryd.ntmps23
    go_wp2_with fail
    refine (number_I _).mono ?_
    rintro e w1 ⟨rfl, rfl⟩
    go_wp2_with fail
    refine (word_same _ _ h).mono ?_
    rintro e w1 ⟨rfl, rfl⟩
    go_wp2_with fail
    refine (word_same _ _ h').mono ?_
    rintro e w1 ⟨rfl, rfl⟩
    go_wp2_with fail
    refine (HO.out _).mono ?_
    rintro e w1 ⟨rfl, rfl⟩
    go_wp2_with fail
    go_ret2
    exact ⟨rfl, rfl⟩
theorem conv_J (a : Int) (w : World) : Calls Tryd.prog 25 #[.string ⟨#[74]⟩, .int .i64 a] w fun e w' => e = .returned (.tuple #[.int .i64 a, .nilIface]) ∧ w = w' := by
  go_enter Tryd.func25, Tryd.ntmps25
  go_wp2
  go_ret2
  exact ⟨rfl, rfl⟩
theorem conv_I (a : Int) (w : World) (h : Hid (wrap32 a = a)) : Calls Tryd.prog 25 #[.string ⟨#[73]⟩, .int .i64 a] w fun e w' => e = .returned (.tuple #[.int .i64 a, .nilIface]) ∧ w = w' := by
  go_enter Tryd.func25, Tryd.ntmps25
  go_wp2_with fail
  refine (number_I _).mono ?_
  rintro e w1 ⟨rfl, rfl⟩
  go_wp2_with fail
  refine (word_same _ _ h).mono ?_
  rintro e w1 ⟨rfl, rfl⟩
  go_wp2_with fail
  go_ret2
  exact ⟨rfl, rfl⟩

theorem numTurns.core (a b : Int) (ha0 : -9223372036854775808 ≤ a) (ha1 : a ≤ 9223372036854775807) (hb0 : -9223372036854775808 ≤ b) (hb1 : b ≤ 9223372036854775807) (w : World) :
    Calls Tryd.prog 8 #[.int .i64 a, .int .i64 b] w fun e w' => e = .returned (.bool true) ∧ Below w.heap.size w w' := by
  have hx := fun w => wrap_calls a w ha0 ha1
  have hy := fun w => wrap_calls b w hb0 hb1
  have hi : Hid (wrap32 (wrap32 a) = wrap32 a) := wrap32_idem a
  have hj : Hid (wrap32 (wrap32 b) = wrap32 b) := wrap32_idem b
  generalize wrap32 a = x at hx hi
  generalize wrap32 b = y at hy hj
  have h0 : Hid (wrap32 0 = 0) := by show _ = _; rw [wrap32k]; omega
  have hn : Hid (wrap32 (wrap32 (-y)) = wrap32 (-y)) := wrap32_idem _
  have e1 : wrap32 (-wrap32 (-y)) = y := by
    have := hj.out
    simp only [wrap32k] at *
    omega
  have e2 : wrap32 (x + wrap32 (-y)) = wrap32 (x - y) := by
    simp only [wrap32k]
    omega
  have E1 := Lib.hid e1
  have E2 := Lib.hid e2
  have HX := Lib.hid hx
  have HY := Lib.hid hy
  clear hx hy e1 e2 ha0 ha1 hb0 hb1
  go_enter Tryd.func8, Tryd.ntmps8
  go_wp2_with fail
  refine (named_true _).mono ?_
  rintro e w1 ⟨rfl, hb⟩
  go_wp2_with fail
  refine (HX.out _).mono ?_
  rintro e w2 ⟨rfl, rfl⟩
  go_wp2_with fail
  refine (HY.out _).mono ?_
  rintro e w2 ⟨rfl, rfl⟩
  go_wp2_with fail
  refine (math_I 12 (-y) y 0 (by decide) (by decide) (by decide) (fun w => whole_neg _ _ w) _ hj h0).mono ?_
  rintro e w2 ⟨rfl, rfl⟩
  go_wp2_with fail
  refine (math_I 12 _ (wrap32 (-y)) 0 (by decide) (by decide) (by decide) (fun w => whole_neg _ _ w) _ hn h0).mono ?_
  rintro e w2 ⟨rfl, rfl⟩
  rw [E1.out]
  go_wp2_with fail
  refine (math_I 2 _ x y (by decide) (by decide) (by decide) (fun w => whole_sub _ _ w) _ hi hj).mono ?_
  rintro e w2 ⟨rfl, rfl⟩
  go_wp2_with fail
  refine (math_I 1 _ x (wrap32 (-y)) (by decide) (by decide) (by decide) (fun w => whole_add _ _ w) _ hi hn).mono ?_
  rintro e w2 ⟨rfl, rfl⟩
  rw [E2.out]
  go_wp2_with fail
  refine (conv_J _ _).mono ?_
  rintro e w2 ⟨rfl, rfl⟩
  go_wp2_with fail
  refine (conv_I _ _ hi).mono ?_
  rintro e w2 ⟨rfl, rfl⟩
  go_wp2_with fail
  go_ret
  exact ⟨ret_bool (by simp), hb⟩

theorem numTurns.walk (a : Int) (ha : (Lit.int .i64 a).wf = true) (b : Int) (hb : (Lit.int .i64 b).wf = true) (w : World) {L S : Prop} (_ : L) (_ : S) :
    Calls Tryd.prog 8 #[.int .i64 a, .int .i64 b] w fun e w' => e = .returned (.bool true) ∧ Below w.heap.size w w' :=
  numTurns.core a b (i64_bounds ha).1 (i64_bounds ha).2 (i64_bounds hb).1 (i64_bounds hb).2 w
end Go.Proofs.YtnamnihdbemkhaaDoor
