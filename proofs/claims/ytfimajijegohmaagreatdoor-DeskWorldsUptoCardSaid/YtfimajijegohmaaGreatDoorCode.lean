/-
  Slices of instructions in memory.
-/
import Derived.Test.YtfimajijegohmaaGreatDoorBase
import Derived.Test.YtfimajijegohmaaGreatDoorPlain
namespace Go.Proofs.YtfimajijegohmaaGreatDoor
set_option linter.unusedVariables false
set_option linter.unusedSimpArgs false
open Go.RowKit

def insCells (x : InsR) : List Value := [.int .i64 x.op, .int .i64 x.a, .int .i64 x.b, .string ⟨⟨x.ty⟩⟩, .string ⟨⟨x.cl⟩⟩, .string ⟨⟨x.nm⟩⟩]
theorem insV_cells (x : InsR) : insV x = .agg (insCells x).toArray := rfl
theorem insCells_one (x : InsR) : ∀ u ∈ insCells x, u.oneCell' = true := by
  intro u hu
  simp only [insCells, List.mem_cons, List.mem_nil_iff, or_false] at hu
  rcases hu with rfl | rfl | rfl | rfl | rfl | rfl <;> rfl

def CodeAt (w : World) (a : Option Addr) (cap : Nat) (l : List InsR) : Prop := RowsAt w 6 a cap (l.map insCells)

theorem CodeAt.below {w w' : World} {a : Option Addr} {cap : Nat} {l : List InsR} (h : CodeAt w a cap l) (hb : Below w.heap.size w w') : CodeAt w' a cap l := RowsAt.below h hb

/-- the six cells of one instruction, as the walk spells them -/
theorem CodeAt.cells {w : World} {a : Option Addr} {cap : Nat} {l : List InsR} (h : CodeAt w a cap l) {k : Nat} {x : InsR} (hx : l[k]? = some x) : ∃ b off, a = some ⟨b, off, none⟩ ∧ b < w.heap.size ∧
    w.cell? ⟨b, off + k * 6, none⟩ = some (.int .i64 x.op) ∧ w.cell? ⟨b, off + k * 6 + 1, none⟩ = some (.int .i64 x.a) ∧ w.cell? ⟨b, off + k * 6 + 2, none⟩ = some (.int .i64 x.b) ∧
    w.cell? ⟨b, off + k * 6 + 3, none⟩ = some (.string ⟨⟨x.ty⟩⟩) ∧ w.cell? ⟨b, off + k * 6 + 4, none⟩ = some (.string ⟨⟨x.cl⟩⟩) ∧ w.cell? ⟨b, off + k * 6 + 5, none⟩ = some (.string ⟨⟨x.nm⟩⟩) := by
  obtain ⟨_, h2 | ⟨b, off, rfl, hlt, hc⟩⟩ := h
  · have : l = [] := by simpa using h2
    subst this; simp at hx
  · have hk : (l.map insCells)[k]? = some (insCells x) := by rw [List.getElem?_map, hx]; rfl
    have hh := hc k _ hk
    exact ⟨b, off, rfl, hlt, hh 0 _ rfl, hh 1 _ rfl, hh 2 _ rfl, hh 3 _ rfl, hh 4 _ rfl, hh 5 _ rfl⟩

theorem code_of_own {w : World} {B : Nat} {v : Value} {l : List InsR} (h : w.ownsRow B 35 6 v l.length (l.map insCells).flatten) : ∃ a cap, v = .slice a l.length cap ∧ CodeAt w a cap l := by
  have h' : w.ownsRow B 35 6 v (l.map insCells).length (l.map insCells).flatten := by rw [List.length_map]; exact h
  obtain ⟨a, cap, h1, h2⟩ := rows_of_own h' (by intro c hc; obtain ⟨x, _, rfl⟩ := List.mem_map.1 hc; rfl)
  exact ⟨a, cap, by rw [h1, List.length_map], h2⟩

theorem flat_snoc (L : List InsR) (x : InsR) : ((L ++ [x]).map insCells).flatten = (L.map insCells).flatten ++ insCells x := by simp

theorem rowStr : RowT Tryz.prog 27 9 1 16 := RowT.mk' (z := .string ByteArray.empty) Tryz.underlying27 (by kernel_rfl) rfl (by decide)
theorem rowIns : RowT Tryz.prog 36 35 6 72 := RowT.mk' (z := .agg #[.int .i64 0, .int .i64 0, .int .i64 0, .string ByteArray.empty, .string ByteArray.empty, .string ByteArray.empty]) Tryz.underlying36 (by kernel_rfl) rfl (by decide)
end Go.Proofs.YtfimajijegohmaaGreatDoor
