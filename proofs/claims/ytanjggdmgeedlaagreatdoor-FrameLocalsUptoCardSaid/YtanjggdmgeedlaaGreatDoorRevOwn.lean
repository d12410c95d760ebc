/-
  slices.Reverse at a row of texts of one's own.
-/
import Derived.Test.YtanjggdmgeedlaaGreatDoorWBase
import Derived.Lib.OwnBridge
namespace Go.Proofs.YtanjggdmgeedlaaGreatDoor
set_option linter.unusedVariables false
set_option linter.unusedSimpArgs false
open Go.RowKit Go.Shelf Go.Lib Go.Sort

theorem rev_own (A : List Nm) (B : Nat) (g cap : Nat) (w0 w : World) (hb : Below B w0 w) (hg : B ≤ g) (h : w.ownsRow B 9 1 (.slice (some ⟨g, 0, none⟩) A.length cap) A.length (A.map strV)) (hl : A.length ≤ 1000000) :
    Calls Tryz.prog 161 #[.slice (some ⟨g, 0, none⟩) A.length cap] w fun e w' => e = .returned (.tuple #[]) ∧ Below B w0 w' ∧ w'.ownsRow B 9 1 (.slice (some ⟨g, 0, none⟩) A.length cap) A.length (A.reverse.map strV) ∧ Below g w w' := by
  obtain ⟨g', cap', hv, _, hlt, hle, _, hzl, hH⟩ := holds_of_ownsRow (enc := encStr) (zs := A) h (by simp)
  simp only [Value.slice.injEq, Option.some.injEq, Addr.mk.injEq] at hv
  obtain ⟨⟨rfl, _, _⟩, _, rfl⟩ := hv
  refine (Tryz.slices_Reverse_string g 0 cap A w hH (by omega)).mono ?_
  rintro e w' ⟨rfl, n, rfl⟩
  refine ⟨rfl, below_putRow (enc := encStr) (q := n) hb hg, ?_, below_putRow (enc := encStr) (q := n) (Below.refl _ _) (Nat.le_refl _)⟩
  have h2 := ownsRow_putRow (enc := encStr) (q := n) (k := A.length) (ys := A.reverse) h (by simp) (Nat.le_refl _)
  rw [List.take_of_length_le (by simp)] at h2
  exact h2
theorem own_down {w : World} {B B' : Nat} {e : TypeId} {size : Nat} {v : Value} {n : Nat} {xs : List Value} (h : w.ownsRow B e size v n xs) (hB : B' ≤ B) : w.ownsRow B' e size v n xs := by
  refine ⟨h.1, ?_⟩
  rcases h.2 with h1 | ⟨g, cap, cur, h1, h2, h3⟩
  · exact Or.inl h1
  · exact Or.inr ⟨g, cap, cur, h1, Nat.le_trans hB h2, h3⟩
end Go.Proofs.YtanjggdmgeedlaaGreatDoor
