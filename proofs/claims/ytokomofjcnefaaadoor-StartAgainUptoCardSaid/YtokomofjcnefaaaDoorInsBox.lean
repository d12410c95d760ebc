/-
  The walk of ins.Check: it tells exactly what is wrong with an instruction. (Printed by gen_inscheck.py.)
-/
import Derived.Test.YtokomofjcnefaaaDoorIns
import Derived.Test.YtokomofjcnefaaaDoorRanged
import Derived.Test.YtokomofjcnefaaaDoorTyped
namespace Go.Proofs.YtokomofjcnefaaaDoor
set_option linter.unusedVariables false
set_option linter.unusedSimpArgs false
open Go.RowKit Go.Shelf Go.Lib

def errOf (n : Int) : Value := if n = 0 then .nilIface else errV n

def CheckAt (x : InsR) (w : World) : Prop := Calls Tryd.prog 96 #[insV x] w fun e w' => e = .returned (errOf (insErr x)) ∧ Below w.heap.size w w'

set_option maxRecDepth 100000 in
set_option maxHeartbeats 1000000 in
theorem insCheck_out (x : InsR) (h : x.op < 1 ∨ 28 < x.op) (w : World) : CheckAt x w := by
  have hr : insErr x = 1 := by unfold insErr; rw [if_pos h]
  unfold CheckAt
  rw [hr]
  clear hr
  obtain ⟨op, a, b, ty, cl, nm⟩ := x
  unfold insV
  simp only at h ⊢
  have HO := Lib.hid (fun w => of_out op h w)
  clear h
  go_enter Tryd.func96, Tryd.ntmps96
  go_wp2_with fail
  refine (HO.out _).mono ?_
  rintro e w1 ⟨rfl, hb1⟩
  go_wp2_with fail
  go_ret
  exact ⟨rfl, (new_below hb1).alloc (Nat.le_trans (by simp) hb1.size) _⟩

theorem name_calls (l : List UInt8) (w : World) : Calls Tryd.prog 15 #[.string ⟨⟨l⟩⟩] w fun e w' => e = .returned (if nameOk l then .nilIface else errV 1) ∧ Below w.heap.size w w' := by
  cases h : nameOk l
  · exact name_bad ⟨⟨l⟩⟩ w h
  · exact name_ok ⟨⟨l⟩⟩ w h

/-- the cells of the boxed instruction and of its form -/
def Boxed (w W : World) (n : Nat) (a b : Int) (ty cl nm nd : List UInt8) (g : Nat) : Prop :=
  Below w.heap.size w W ∧ w.heap.size < W.heap.size ∧ w.heap.size < g ∧ g < W.heap.size ∧ W.cell? ⟨w.heap.size, 0, none⟩ = some (.int .i64 n) ∧ W.cell? ⟨w.heap.size, 1, none⟩ = some (.int .i64 a) ∧ W.cell? ⟨w.heap.size, 2, none⟩ = some (.int .i64 b) ∧
  W.cell? ⟨w.heap.size, 3, none⟩ = some (.string ⟨⟨ty⟩⟩) ∧ W.cell? ⟨w.heap.size, 4, none⟩ = some (.string ⟨⟨cl⟩⟩) ∧ W.cell? ⟨w.heap.size, 5, none⟩ = some (.string ⟨⟨nm⟩⟩) ∧ W.cell? ⟨g, 1, none⟩ = some (.string ⟨⟨nd⟩⟩)

theorem Boxed.below {w W W' : World} {n g : Nat} {a b : Int} {ty cl nm nd : List UInt8} (h : Boxed w W n a b ty cl nm nd g) (hb : Below W.heap.size W W') : Boxed w W' n a b ty cl nm nd g := by
  obtain ⟨h1, h2, h2a, h2b, c0, c1, c2, c3, c4, c5, c6⟩ := h
  refine ⟨bl_trans h1 hb, Nat.lt_of_lt_of_le h2 hb.size, h2a, Nat.lt_of_lt_of_le h2b hb.size, ?_, ?_, ?_, ?_, ?_, ?_, ?_⟩
  · rw [hb.cell (p := ⟨w.heap.size, 0, none⟩) h2]; exact c0
  · rw [hb.cell (p := ⟨w.heap.size, 1, none⟩) h2]; exact c1
  · rw [hb.cell (p := ⟨w.heap.size, 2, none⟩) h2]; exact c2
  · rw [hb.cell (p := ⟨w.heap.size, 3, none⟩) h2]; exact c3
  · rw [hb.cell (p := ⟨w.heap.size, 4, none⟩) h2]; exact c4
  · rw [hb.cell (p := ⟨w.heap.size, 5, none⟩) h2]; exact c5
  · rw [hb.cell (p := ⟨g, 1, none⟩) h2b]; exact c6

theorem boxed_start {w w1 : World} {n : Nat} {a b : Int} {ty cl nm wd nd : List UInt8} (hb : Below (w.alloc (.cells #[.int .i64 n, .int .i64 a, .int .i64 b, .string ⟨⟨ty⟩⟩, .string ⟨⟨cl⟩⟩, .string ⟨⟨nm⟩⟩] 122)).heap.size (w.alloc (.cells #[.int .i64 n, .int .i64 a, .int .i64 b, .string ⟨⟨ty⟩⟩, .string ⟨⟨cl⟩⟩, .string ⟨⟨nm⟩⟩] 122)) w1) :
    Boxed w (w1.alloc (.cells #[.string ⟨⟨wd⟩⟩, .string ⟨⟨nd⟩⟩] 136)) n a b ty cl nm nd w1.heap.size := by
  have hs : w.heap.size + 1 ≤ w1.heap.size := by have := hb.size; simpa using this
  have hc : ∀ j : Nat, (w1.alloc (.cells #[.string ⟨⟨wd⟩⟩, .string ⟨⟨nd⟩⟩] 136)).cell? ⟨w.heap.size, j, none⟩ = (#[.int .i64 n, .int .i64 a, .int .i64 b, .string ⟨⟨ty⟩⟩, .string ⟨⟨cl⟩⟩, .string ⟨⟨nm⟩⟩] : Array Value)[j]? := by
    intro j
    rw [World.cell?_alloc_lt w1 _ ⟨w.heap.size, j, none⟩ (by show w.heap.size < w1.heap.size; omega), hb.cell (p := ⟨w.heap.size, j, none⟩) (by simp), World.cell?_alloc_new]
  refine ⟨((new_below hb).alloc (by omega) _), by simp; omega, by omega, by simp, ?_, ?_, ?_, ?_, ?_, ?_, ?_⟩
  · rw [hc]; rfl
  · rw [hc]; rfl
  · rw [hc]; rfl
  · rw [hc]; rfl
  · rw [hc]; rfl
  · rw [hc]; rfl
  · rw [World.cell?_alloc_new]; rfl

end Go.Proofs.YtokomofjcnefaaaDoor
