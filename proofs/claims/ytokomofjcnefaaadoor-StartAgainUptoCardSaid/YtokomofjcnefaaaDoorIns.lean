/-
  The walks of package ins: of, the literal 'needs', Jumps, ranged.
-/
import Derived.Test.YtokomofjcnefaaaDoorPIns
import Derived.Test.YtokomofjcnefaaaDoorForms
import Derived.Test.YtokomofjcnefaaaDoorMeth
import Derived.Test.YtokomofjcnefaaaDoorSmall
namespace Go.Proofs.YtokomofjcnefaaaDoor
set_option linter.unusedVariables false
set_option linter.unusedSimpArgs false
open Go.RowKit Go.Shelf Go.Lib


set_option maxRecDepth 100000 in
set_option maxHeartbeats 400000 in
theorem of_in (n : Nat) (h1 : 1 ≤ n) (h2 : n ≤ 28) (w : World) (hF : FormsAt w) :
    Calls Tryd.prog 99 #[.int .i64 n] w fun e w' => e = .returned (.tuple #[.agg #[.string ⟨⟨wordL n⟩⟩, .string ⟨⟨needL n⟩⟩], .bool true]) ∧ Below w.heap.size w w' := by
  obtain ⟨c0, c1⟩ := hF n _ (form_get (by omega))
  have hlt := hF.lt
  have HF := Lib.hid hF
  clear hF
  go_enter Tryd.func99, Tryd.ntmps99
  go_wp2_with fail
  exact bodyPost_ret (v := .tuple #[.agg #[.string ⟨⟨wordL n⟩⟩, .string ⟨⟨needL n⟩⟩], .bool true]) (by simp [results, Tryd.results99, go_sem]) rfl ⟨rfl, (Below.refl _ _).alloc (Nat.le_refl _) _⟩

set_option maxRecDepth 100000 in
set_option maxHeartbeats 400000 in
theorem of_out (op : Int) (h : op < 1 ∨ 28 < op) (w : World) :
    Calls Tryd.prog 99 #[.int .i64 op] w fun e w' => e = .returned (.tuple #[.agg #[.string ⟨#[]⟩, .string ⟨#[]⟩], .bool false]) ∧ Below w.heap.size w w' := by
  rcases h with h | h
  all_goals
    go_enter Tryd.func99, Tryd.ntmps99
    go_wp2_with fail
    exact bodyPost_ret (v := .tuple #[.agg #[.string ⟨#[]⟩, .string ⟨#[]⟩], .bool false]) (by simp [results, Tryd.results99, go_sem]) rfl ⟨rfl, (Below.refl _ _).alloc (Nat.le_refl _) _⟩

theorem index_ge (l : List UInt8) (c : UInt8) : -1 ≤ indexByte l c := by
  induction l with
  | nil => simp [indexByte]
  | cons x y ih =>
    rw [indexByte]
    split
    · omega
    · split <;> omega
theorem index_mem (nd : List UInt8) (c : UInt8) : decide (0 ≤ indexByte nd c) = decide (c ∈ nd) := by
  induction nd with
  | nil => rfl
  | cons b r ih =>
    rw [indexByte]
    by_cases e : b = c
    · subst e; simp
    · have e1 : (b == c) = false := by simpa using e
      have e2 : ¬ c = b := fun q => e q.symm
      rw [Bool.eq_iff_iff] at ih ⊢
      simp only [decide_eq_true_eq, List.mem_cons, e1, e2, false_or, Bool.false_eq_true, if_false] at ih ⊢
      rw [← ih]
      have := index_ge r c
      split
      · rename_i h; rw [eq_of_beq h]
      · rename_i h
        have hn : indexByte r c ≠ -1 := fun q => h (by rw [q]; rfl)
        omega

theorem contains_one (nd : List UInt8) (c : UInt8) (w : World) : Calls Tryd.prog 101 #[.string ⟨⟨nd⟩⟩, .string ⟨#[c]⟩] w fun e w' => e = .returned (.bool (decide (c ∈ nd))) ∧ w = w' :=
  (Tryd.strings_Contains_one ⟨⟨nd⟩⟩ c w).mono fun e w' ⟨h1, h2⟩ => ⟨by rw [h1]; exact ret_bool (index_mem nd c), h2.symm⟩

set_option maxRecDepth 100000 in
theorem needs_calls (nd : List UInt8) (c : UInt8) (b : Nat) (w : World) (hc : w.cell? ⟨b, 1, none⟩ = some (.string ⟨⟨nd⟩⟩)) :
    Calls Tryd.prog 100 #[.string ⟨#[c]⟩, .pointer (some ⟨b, 0, none⟩)] w fun e w' => e = .returned (.bool (decide (c ∈ nd))) ∧ w = w' := by
  go_enter Tryd.func100, Tryd.ntmps100
  go_wp2_with fail
  refine (contains_one nd c _).mono ?_
  rintro e w1 ⟨rfl, rfl⟩
  go_wp2_with fail
  go_ret
  exact ⟨rfl, rfl⟩
end Go.Proofs.YtokomofjcnefaaaDoor
