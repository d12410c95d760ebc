/-
  A frame as an argument.
-/
import Derived.Test.YtfddgdbebhmcnaaGreatDoorFa
import Derived.Test.YtfddgdbebhmcnaaGreatDoorOpens
namespace Go.Proofs.YtfddgdbebhmcnaaGreatDoor
set_option linter.unusedVariables false
set_option linter.unusedSimpArgs false
open Go.RowKit Go.Shelf Go.Lib
section
open Go.ChangeShapes Go.WideShapes Go.Deep
variable {H : Type} {enc : TypeId × Value → H} {W : World}
theorem cells_Frame : Tryz.prog.cellsOf 60 = 2 := by kernel_rfl
set_option maxRecDepth 10000 in
theorem open_frameV {r : Reach} {base : Nat} {v : Value} {d : DataW H} {p : List MemPlace} (hv : Value.okWide Tryz.prog W r base 60 v) (h : DataW.Trod enc Tryz.prog W 0 (fun _ => true) true 60 v d p) :
    ∃ f q, v = frV f q ∧ FrAt W f q ∧ (Rows.uptoBulk d ≤ 1048576 → FrB f) := by
  obtain ⟨cs, rfl, hsz⟩ := okWide_struct Tryz.underlying60 hv
  obtain ⟨l⟩ := cs
  obtain ⟨fuel, hf⟩ := h
  have hf' : DataW.trod enc Tryz.prog W 0 (fun _ => true) true fuel 60 l = some (d, p) := hf
  have hl : l.length = 2 := by rw [← cells_Frame]; exact hsz
  obtain ⟨ys, n, _, hx, _, hyl, hff⟩ := DataW.trod_struct Tryz.underlying60 hf'
  clear hf hf'
  simp only [Prod.mk.injEq] at hx
  obtain ⟨rfl, _⟩ := hx
  obtain ⟨c0, c1, rfl⟩ := list2 hl
  obtain ⟨y0, _, m0, h0⟩ := field_one hyl hff 0 _ rfl rfl cells_strs c0 rfl
  obtain ⟨y1, _, m1, h1⟩ := field_one hyl hff 1 _ rfl rfl cells_strs c1 rfl
  obtain ⟨a0, k0, l0, e0, s0, _, b0⟩ := open_strs h0
  obtain ⟨a1, k1, l1, e1, s1, _, b1⟩ := open_strs h1
  simp only [List.cons.injEq, and_true] at e0 e1
  subst e0
  subst e1
  have g0 := bulk_agg m0
  have g1 := bulk_agg m1
  refine ⟨⟨l0, l1⟩, ⟨a0, k0, a1, k1⟩, rfl, ⟨s0, s1⟩, fun hb x hx => ?_⟩
  rcases List.mem_append.1 hx with h | h
  · have := b0 x h; omega
  · have := b1 x h; omega
end
end Go.Proofs.YtfddgdbebhmcnaaGreatDoor
