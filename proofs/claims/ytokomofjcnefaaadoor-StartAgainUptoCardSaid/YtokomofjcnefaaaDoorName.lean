/-
  The walks of name.Check and of the law's own named(): what they return, for every input.
-/
import Derived.Test.YtokomofjcnefaaaDoorPName
import Derived.Test.YtokomofjcnefaaaDoorShelf
import Derived.Test.YtokomofjcnefaaaDoorRows
import Derived.WalkKit
import Derived.WalkSpells
import Derived.WalkLawsBesides
import Derived.Shelf.Strings.SlTrimAscii
import Derived.Lib.Hide
import Derived.Handy
import Derived.Lib.IfaceEq
import Derived.Lib.IfaceNeq
namespace Go.Proofs.YtokomofjcnefaaaDoor
set_option linter.unusedVariables false
set_option linter.unusedSimpArgs false
open Go.RowKit Go.Shelf Go.Lib

abbrev errV (n : Int) : Value := .iface 38 (.int .i64 n)

theorem bl_trans {a b c : World} (h : Below a.heap.size a b) (k : Below b.heap.size b c) : Below a.heap.size a c := h.trans (k.mono h.size)
theorem bl_alloc {a w : World} (h : Below a.heap.size a w) (o : Obj) : Below a.heap.size a (w.alloc o) := h.alloc h.size o
theorem new_cells (W : World) (cs : List Value) (t : TypeId) (j : Nat) (u : Value) (h : cs[j]? = some u) : (W.alloc (.cells cs.toArray t)).cell? ((⟨W.heap.size, 0, none⟩ : Addr).add j) = some u := by
  have e : (⟨W.heap.size, 0, none⟩ : Addr).add j = ⟨W.heap.size, j, none⟩ := by unfold Addr.add; split <;> simp_all
  rw [e, World.cell?_alloc_new]
  simpa using h
theorem ret_int {k : IntKind} {a b : Int} (h : a = b) : Ending.returned (.int k a) = .returned (.int k b) := by rw [h]
theorem ret_bool {a b : Bool} (h : a = b) : Ending.returned (.bool a) = .returned (.bool b) := by rw [h]

@[go_sem] theorem run_eql_errno (w : World) (a b : Int) : (binOp .eql 30 (.iface 38 (.int .i64 a)) (.iface 38 (.int .i64 b))).run Tryd.prog w = .ok (.bool (a == b)) w :=
  Lib.run_eql_iface_int w a b Tryd.underlying30 (by kernel_rfl) Tryd.underlying38
@[go_sem] theorem run_neq_errno (w : World) (a b : Int) : (binOp .neq 30 (.iface 38 (.int .i64 a)) (.iface 38 (.int .i64 b))).run Tryd.prog w = .ok (.bool (!(a == b))) w :=
  Lib.run_neq_iface_int w a b Tryd.underlying30 (by kernel_rfl) Tryd.underlying38

theorem trim_contract (s : ByteArray) (w : World) (hs : s.size ≤ 9223372036854775807) :
    Calls Tryd.prog 23 #[.string s, .string ⟨#[97, 98, 99, 100, 101, 102, 103, 104, 105, 106, 107, 108, 109, 110, 111, 112, 113, 114, 115, 116, 117, 118, 119, 120, 121, 122, 65, 66, 67, 68, 69, 70, 71, 72, 73, 74, 75, 76, 77, 78, 79, 80, 81, 82, 83, 84, 85, 86, 87, 88, 89, 90, 95, 48, 49, 50, 51, 52, 53, 54, 55, 56, 57]⟩] w fun e w' => e = .returned (.string ⟨(trimS s.data.toList nameSet).toArray⟩) ∧ Below w.heap.size w w' := by
  exact Any.strings_Trim_laid Tryd.lays160 (by kernel_rfl) s ⟨#[97, 98, 99, 100, 101, 102, 103, 104, 105, 106, 107, 108, 109, 110, 111, 112, 113, 114, 115, 116, 117, 118, 119, 120, 121, 122, 65, 66, 67, 68, 69, 70, 71, 72, 73, 74, 75, 76, 77, 78, 79, 80, 81, 82, 83, 84, 85, 86, 87, 88, 89, 90, 95, 48, 49, 50, 51, 52, 53, 54, 55, 56, 57]⟩ w hs (by decide) (ascii_of_all (by decide))

set_option maxHeartbeats 400000 in
theorem name_ok (s : ByteArray) (w : World) (h : nameOk s.data.toList = true) :
    Calls Tryd.prog 15 #[.string s] w fun e w' => e = .returned .nilIface ∧ Below w.heap.size w w' := by
  obtain ⟨b, r, hl, h20, htr, hd⟩ := nameOk_true h
  obtain ⟨⟨l⟩⟩ := s
  simp only at hl
  subst hl
  simp only [List.length_cons] at h20
  have hcon := trim_contract ⟨⟨b :: r⟩⟩ w (by simp [ByteArray.size]; omega)
  simp only [htr] at hcon
  have hix := Tryd.strings_IndexByte ⟨⟨digSet⟩⟩ b.toNat
  have hdi := digit_index b
  rw [hd] at hdi
  simp only [decide_eq_false_iff_not] at hdi
  have HI := Lib.hid hix
  have HC := Lib.hid hcon
  clear hix hcon htr h
  go_enter Tryd.func15, Tryd.ntmps15
  go_wp2_with fail
  refine HC.out.mono ?_
  rintro e w1 ⟨rfl, hb⟩
  go_wp2_with fail
  refine (HI.out _).mono ?_
  rintro e w2 ⟨rfl, rfl⟩
  go_wp2_with fail
  go_ret
  exact ⟨rfl, hb⟩

set_option maxHeartbeats 400000 in
theorem name_bad (s : ByteArray) (w : World) (h : nameOk s.data.toList = false) :
    Calls Tryd.prog 15 #[.string s] w fun e w' => e = .returned (errV 1) ∧ Below w.heap.size w w' := by
  rcases nameOk_false h with h | h | ⟨b, r, hl, h20, htr⟩ | ⟨b, r, hl, h20, htr, hd⟩
  · obtain ⟨⟨l⟩⟩ := s
    simp only at h
    subst h
    go_enter Tryd.func15, Tryd.ntmps15
    go_wp2
    go_ret
    exact ⟨rfl, Below.refl _ _⟩
  · have hne : s.data.toList = [] → False := by intro e; rw [e] at h; simp at h
    have hz : 20 < s.size := by
      have e : s.size = s.data.toList.length := Array.length_toList.symm
      omega
    go_enter Tryd.func15, Tryd.ntmps15
    go_wp2_with fail
    all_goals go_ret
    all_goals exact ⟨rfl, Below.refl _ _⟩
  · obtain ⟨⟨l⟩⟩ := s
    simp only at hl
    subst hl
    simp only [List.length_cons] at h20
    have hcon := trim_contract ⟨⟨b :: r⟩⟩ w (by simp [ByteArray.size]; omega)
    obtain ⟨x, y, hxy⟩ : ∃ x y, trimS (b :: r) nameSet = x :: y := by
      cases hh : trimS (b :: r) nameSet with
      | nil => exact absurd hh htr
      | cons x y => exact ⟨x, y, rfl⟩
    simp only [hxy] at hcon
    have HC := Lib.hid hcon
    clear hcon htr h hxy
    go_enter Tryd.func15, Tryd.ntmps15
    go_wp2_with fail
    refine HC.out.mono ?_
    rintro e w1 ⟨rfl, hb⟩
    go_wp2_with fail
    go_ret
    exact ⟨rfl, hb⟩
  · obtain ⟨⟨l⟩⟩ := s
    simp only at hl
    subst hl
    simp only [List.length_cons] at h20
    have hcon := trim_contract ⟨⟨b :: r⟩⟩ w (by simp [ByteArray.size]; omega)
    simp only [htr] at hcon
    have hix := Tryd.strings_IndexByte ⟨⟨digSet⟩⟩ b.toNat
    have hdi := digit_index b
    rw [hd] at hdi
    simp only [decide_eq_true_eq] at hdi
    have HI := Lib.hid hix
    have HC := Lib.hid hcon
    clear hix hcon htr h
    go_enter Tryd.func15, Tryd.ntmps15
    go_wp2_with fail
    refine HC.out.mono ?_
    rintro e w1 ⟨rfl, hb⟩
    go_wp2_with fail
    refine (HI.out _).mono ?_
    rintro e w2 ⟨rfl, rfl⟩
    go_wp2_with fail
    go_ret
    exact ⟨rfl, hb⟩

set_option maxRecDepth 100000 in
set_option maxHeartbeats 400000 in
theorem named_true (w : World) :
    Calls Tryd.prog 7 #[] w fun e w' => e = .returned (.bool true) ∧ Below w.heap.size w w' := by
  have h1 := fun w => name_ok ⟨#[65]⟩ w (by decide +kernel)
  have h2 := fun w => name_bad ⟨#[]⟩ w (by decide +kernel)
  have H1 := Lib.hid h1
  have H2 := Lib.hid h2
  clear h1 h2
  go_enter Tryd.func7, Tryd.ntmps7
  go_wp2_with fail
  refine (H1.out _).mono ?_
  rintro e w1 ⟨rfl, hb⟩
  go_wp2_with fail
  refine (H2.out _).mono ?_
  rintro e w2 ⟨rfl, hb2⟩
  go_wp2_with fail
  go_ret
  exact ⟨rfl, hb.trans (hb2.mono hb.size)⟩
end Go.Proofs.YtokomofjcnefaaaDoor
