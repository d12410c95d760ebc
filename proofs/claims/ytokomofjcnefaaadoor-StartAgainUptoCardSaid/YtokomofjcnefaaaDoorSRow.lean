/-
  Slices of texts in memory.
-/
import Derived.Test.YtokomofjcnefaaaDoorMeth
namespace Go.Proofs.YtokomofjcnefaaaDoor
set_option linter.unusedVariables false
set_option linter.unusedSimpArgs false
open Go.RowKit Go.Shelf Go.Lib

/-- a slice of texts -/
def SRow (w : World) (a : Option Addr) (cap : Nat) (A : List (List UInt8)) : Prop :=
  A.length ≤ cap ∧ (A = [] ∨ ∃ b off, a = some ⟨b, off, none⟩ ∧ b < w.heap.size ∧ ∀ j x, A[j]? = some x → w.cell? ⟨b, off + j, none⟩ = some (strV x))

theorem SRow.below {w w' : World} {a : Option Addr} {cap : Nat} {A : List (List UInt8)} (h : SRow w a cap A) (hb : Below w.heap.size w w') : SRow w' a cap A := by
  obtain ⟨h1, h2 | ⟨b, off, rfl, hlt, hc⟩⟩ := h
  · exact ⟨h1, Or.inl h2⟩
  · exact ⟨h1, Or.inr ⟨b, off, rfl, Nat.lt_of_lt_of_le hlt hb.size, fun j x hx => by rw [hb.cell (p := ⟨b, off + j, none⟩) hlt]; exact hc j x hx⟩⟩

theorem srow_of_own {w : World} {B : Nat} {v : Value} {A : List (List UInt8)} (h : w.ownsRow B 9 1 v A.length (A.map strV)) : ∃ a cap, v = .slice a A.length cap ∧ SRow w a cap A := by
  rcases h.2 with ⟨rfl, h0⟩ | ⟨g, cap, cur, rfl, _, hg, hle, _, _, _⟩
  · exact ⟨none, 0, by rw [h0], by omega, Or.inl (List.eq_nil_of_length_eq_zero h0)⟩
  · refine ⟨_, cap, rfl, hle, Or.inr ⟨g, 0, rfl, (Array.getElem?_eq_some_iff.1 hg).1, fun j x hx => ?_⟩⟩
    have := h.cells (g := g) rfl j (strV x) (by rw [List.getElem?_map, hx]; rfl)
    have e : (⟨g, 0, none⟩ : Addr).add j = ⟨g, j, none⟩ := by unfold Addr.add; split <;> simp_all
    rw [e] at this
    rw [Nat.zero_add]; exact this

end Go.Proofs.YtokomofjcnefaaaDoor
