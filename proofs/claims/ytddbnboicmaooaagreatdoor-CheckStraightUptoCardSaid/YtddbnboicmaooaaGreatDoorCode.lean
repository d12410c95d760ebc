import Derived.Test.YtddbnboicmaooaaGreatDoorBase
namespace Go.Proofs.YtddbnboicmaooaaGreatDoor
set_option linter.unusedVariables false
set_option linter.unusedSimpArgs false
open Go.RowKit
def insCells (x : InsR) : List Value := [.int .i64 x.op, .int .i64 x.a, .int .i64 x.b, .string ⟨⟨x.ty⟩⟩, .string ⟨⟨x.cl⟩⟩, .string ⟨⟨x.nm⟩⟩]
def CodeAt (w : World) (a : Option Addr) (cap : Nat) (l : List InsR) : Prop := RowsAt w 6 a cap (l.map insCells)
theorem CodeAt.below {w w' : World} {a : Option Addr} {cap : Nat} {l : List InsR} (h : CodeAt w a cap l) (hb : Below w.heap.size w w') : CodeAt w' a cap l := RowsAt.below h hb
theorem CodeAt.cells {w : World} {a : Option Addr} {cap : Nat} {l : List InsR} (h : CodeAt w a cap l) {k : Nat} {x : InsR} (hx : l[k]? = some x) : ∃ b off, a = some ⟨b, off, none⟩ ∧ b < w.heap.size ∧
   w.cell? ⟨b, off + k * 6, none⟩ = some (.int .i64 x.op) ∧ w.cell? ⟨b, off + k * 6 + 1, none⟩ = some (.int .i64 x.a) ∧ w.cell? ⟨b, off + k * 6 + 2, none⟩ = some (.int .i64 x.b) ∧
   w.cell? ⟨b, off + k * 6 + 3, none⟩ = some (.string ⟨⟨x.ty⟩⟩) ∧ w.cell? ⟨b, off + k * 6 + 4, none⟩ = some (.string ⟨⟨x.cl⟩⟩) ∧ w.cell? ⟨b, off + k * 6 + 5, none⟩ = some (.string ⟨⟨x.nm⟩⟩) := by
 obtain ⟨_, h2 | ⟨b, off, rfl, hlt, hc⟩⟩ := h
 · have : l = [] := by simpa using h2
   subst this; simp at hx
 · have hk : (l.map insCells)[k]? = some (insCells x) := by rw [List.getElem?_map, hx]; rfl
   have hh := hc k _ hk
   exact ⟨b, off, rfl, hlt, hh 0 _ rfl, hh 1 _ rfl, hh 2 _ rfl, hh 3 _ rfl, hh 4 _ rfl, hh 5 _ rfl⟩
theorem rowStr : RowT Tryz.prog 35 9 1 16 := RowT.mk' (z := .string ByteArray.empty) Tryz.underlying35 (by kernel_rfl) rfl (by decide)
end Go.Proofs.YtddbnboicmaooaaGreatDoor
