/-
  DeskWorlds: the walk of the law, joined.
-/
import Derived.Test.YtfimajijegohmaaGreatDoorDeskWa
import Derived.Test.YtfimajijegohmaaGreatDoorDeskWb
import Derived.Test.YtfimajijegohmaaGreatDoorDeskWc
namespace Go.Proofs.YtfimajijegohmaaGreatDoor
set_option linter.unusedVariables false
set_option linter.unusedSimpArgs false
open Go.RowKit Go.Shelf Go.Lib

theorem deskWorlds_go (A B : List Nm) (na sa : Option Addr) (nc sc : Nat) (a b : Nm) (w : World) (hA : SRow w na nc A) (hS : SRow w sa sc B) (hF : FormsAt w) (hM : MaxAt w) (hAl : A.length ≤ 1048576) (hBl : B.length ≤ 1048576) :
    Calls Tryz.prog 6 #[.slice na A.length nc, .slice sa B.length sc, .string ⟨⟨a⟩⟩, .string ⟨⟨b⟩⟩] w fun e w' => e = .returned (.bool true) ∧ Below w.heap.size w w' := by
  by_cases h1 : A.length ≤ B.length ∧ A.length ≤ 9
  · exact deskWorlds_a A B na sa nc sc a b w hA hS hF hM hAl hBl h1
  · by_cases h2 : B.length < A.length ∧ B.length ≤ 9
    · exact deskWorlds_b A B na sa nc sc a b w hA hS hF hM hAl hBl h2
    · exact deskWorlds_c A B na sa nc sc a b w hA hS hF hM hAl hBl (by omega)
theorem max_at {W : World} (h : W.ShapedOpen Tryz.prog) : MaxAt W := by
  obtain ⟨m, hm⟩ := Tryz.laysM145.s1_3 W h
  exact ⟨m, hm, World.block_lt_of_cell? W _ hm⟩
set_option maxRecDepth 100000 in
theorem deskWorlds.walk {H : Type} {enc : TypeId × Value → H} {W : World} {base : Nat} {v0 : Value} {d0 : DataW H} {p0 : List MemPlace} (hv0 : Value.okWide Tryz.prog W .any base 27 v0) (h0 : DataW.Trod enc Tryz.prog W 0 (fun _ => true) true 27 v0 d0 p0)
    {v1 : Value} {d1 : DataW H} {p1 : List MemPlace} (hv1 : Value.okWide Tryz.prog W .any base 27 v1) (h1 : DataW.Trod enc Tryz.prog W 0 (fun _ => true) true 27 v1 d1 p1)
    (s2 : ByteArray) (hs2 : s2.size ≤ maxLen) (hr2 : s2.data.toList.length ≤ reachBytes)
    (s3 : ByteArray) (hs3 : s3.size ≤ maxLen) (hr3 : s3.data.toList.length ≤ reachBytes)
    (W' : World) (hW : W' = W) (hL : laidMetH Tryz.prog Rows.deskWorldsUptoRow.laid W) (hsh : W.ShapedOpen Tryz.prog) {S : Prop} (_ : S) (hbulk : Rows.uptoBulkAll [d0, d1, DataW.lit (.string s2.data.toList), DataW.lit (.string s3.data.toList)] ≤ 1048576) :
    Calls Tryz.prog 6 #[v0, v1, .string s2, .string s3] W' fun e w' => e = .returned (.bool true) ∧ Below W'.heap.size W' w' := by
  subst hW
  obtain ⟨a0, len0, cap0, rfl⟩ := WideShapes.okWide_slice Tryz.underlying27 hv0
  obtain ⟨fuel0, hf0⟩ := h0
  obtain ⟨na, nc, A, hcs0, hA, hAl, _⟩ := open_strs hf0
  simp only [Value.cells, List.cons.injEq, and_true] at hcs0
  rw [hcs0]
  obtain ⟨a1, len1, cap1, rfl⟩ := WideShapes.okWide_slice Tryz.underlying27 hv1
  obtain ⟨fuel1, hf1⟩ := h1
  obtain ⟨sa, sc, B, hcs1, hB, hBl, _⟩ := open_strs hf1
  simp only [Value.cells, List.cons.injEq, and_true] at hcs1
  rw [hcs1]
  obtain ⟨⟨x2⟩⟩ := s2
  obtain ⟨⟨x3⟩⟩ := s3
  simp only [Rows.uptoBulkAll, Rows.uptoBulk] at hbulk
  exact deskWorlds_go A B na sa nc sc x2 x3 W' hA hB (forms_of_laid hL (by kernel_rfl)) (max_at hsh) (by omega) (by omega)
end Go.Proofs.YtfimajijegohmaaGreatDoor
