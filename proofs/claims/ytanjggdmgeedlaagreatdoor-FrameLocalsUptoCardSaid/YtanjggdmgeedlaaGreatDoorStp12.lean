/-
  The deferred literal of After.
-/
import Derived.Test.YtanjggdmgeedlaaGreatDoorStp11
import Derived.Defers
import Derived.Recover
namespace Go.Proofs.YtanjggdmgeedlaaGreatDoor
set_option linter.unusedVariables false
set_option linter.unusedSimpArgs false
open Go.RowKit Go.Shelf Go.Lib Go.Sort

theorem catch_idle (p q : Addr) (w : World) :
    CallsD Tryz.prog 76 #[.pointer (some p), .pointer (some q)] .returning w fun e u' w' => e = .returned (.tuple #[]) ∧ u' = .returning ∧ w' = w := by
  refine callsD_of_wpS Tryz.func76 rfl fun c₀ cs hu => ?_
  apply wpS_seq
  apply wpS_region
  simp [wpOpsS, go_sem, recoverD, hu, Tryz.ntmps76, Exit.thenS]
  refine wpS_of_wp ?_
  simp only [show (15 : Nat) = 14 + 1 from rfl, Array.replicate, List.replicate, List.setIfInBounds_toArray, List.set_cons_zero, List.set_cons_succ, List.append_toArray, List.cons_append, List.nil_append]
  go_wp2_with fail
  cases c₀
  simp_all [bodyPostS, results, Tryz.results76]
set_option maxRecDepth 100000 in
theorem catch_pan (g h : Nat) (w : World) (hg : Blk w g 48 #[.slice none 0 0, .slice none 0 0]) (hh : Blk w h 4 #[.bool false]) :
    CallsD Tryz.prog 76 #[.pointer (some ⟨g, 0, none⟩), .pointer (some ⟨h, 0, none⟩)] (.panicking unfitP) w fun e u' w' =>
      e = .returned (.tuple #[]) ∧ u' = .panicking [{ v := .iface 137 (.agg #[]), recovered := true }] ∧ w' = (((w.setCell ⟨g, 0, none⟩ (.slice none 0 0)).setCell ⟨g, 1, none⟩ (.slice none 0 0)).setCell ⟨h, 0, none⟩ (.bool false)).alloc (.cells #[] 137) := by
  have hta : ∀ w, (Instr.typeAssert (.iface 137 (.agg #[])) 20 137 true).run Tryz.prog w = .ok (.tuple #[.agg #[], .bool true]) w := fun _ => by kernel_rfl
  have hz := hg.alloc (.cells #[] 137)
  have hy := hh.alloc (.cells #[] 137)
  have z0 := hg.cell 0
  have z1 := hg.cell 1
  have z2 := hg.frozen 0
  have z3 := hg.frozen 1
  have z4 := hg.lt
  have y0 := hh.cell 0
  have y1 := hh.frozen 0
  have y2 := hh.lt
  have hne : h ≠ g := by
    intro e
    subst e
    have := hg.symm.trans hh
    simp at this
  unfold unfitP
  refine callsD_of_wpS Tryz.func76 rfl fun c₀ cs hu => ?_
  apply wpS_seq
  apply wpS_region
  simp [wpOpsS, go_sem, recoverD, hu, Tryz.ntmps76, Exit.thenS]
  refine wpS_of_wp ?_
  simp only [show (15 : Nat) = 14 + 1 from rfl, Array.replicate, List.replicate, List.setIfInBounds_toArray, List.set_cons_zero, List.set_cons_succ, List.append_toArray, List.cons_append, List.nil_append]
  go_wp2_with fail
  simp [bodyPostS, results, Tryz.results76]
theorem sclone_calls (A : List Nm) (a : Option Addr) (cap : Nat) (w : World) (h : SRow w a cap A) (hl : A.length ≤ 1000) :
    Calls Tryz.prog 77 #[.slice a A.length cap] w fun e w' => (∃ q : Option Addr × Nat, e = .returned (.slice q.1 A.length q.2) ∧ w'.ownsRow w.heap.size 9 1 (.slice q.1 A.length q.2) A.length (A.map strV)) ∧ Below w.heap.size w w' := by
  have fin : ∀ {e : Ending} {w' : World} {v' : Value}, e = .returned v' → w'.ownsRow w.heap.size 9 1 v' A.length (A.map strV) → Below w.heap.size w w' → (∃ q : Option Addr × Nat, e = .returned (.slice q.1 A.length q.2) ∧ w'.ownsRow w.heap.size 9 1 (.slice q.1 A.length q.2) A.length (A.map strV)) ∧ Below w.heap.size w w' := fun {e w' v'} he ho hb => by
    obtain ⟨a2, c2, rfl, _⟩ := slice_of_own ho
    exact ⟨⟨(a2, c2), he, ho⟩, hb⟩
  obtain ⟨hle, h2 | ⟨b, off, rfl, hlt, hc⟩⟩ := h
  · subst h2
    cases a with
    | none =>
      refine (Tryz.slices_Clone_string_nil 0 cap w).mono ?_
      rintro e w' ⟨he, rfl⟩
      exact fin he ⟨rfl, Or.inl ⟨rfl, rfl⟩⟩ (Below.refl _ _)
    | some ad =>
      refine (Tryz.slices_Clone_string_zero ad cap w).mono ?_
      rintro e w' ⟨v', he, ho, _, hb⟩
      exact fin he ho hb
  · refine (Tryz.slices_Clone_string b off A.length cap (A.map fun t => ⟨⟨t⟩⟩) w (by simp) (by omega) (fun j hj => by
      have hj' : j < A.length := by simpa using hj
      have := hc j A[j] (List.getElem?_eq_getElem hj')
      rw [this]
      simp [strV, List.getD_eq_getElem?_getD, hj'])).mono ?_
    rintro e w' ⟨v', he, ho, _, hb⟩
    refine fin he ?_ hb
    rw [List.take_of_length_le (by simp), List.map_map] at ho
    exact ho
end Go.Proofs.YtanjggdmgeedlaaGreatDoor
