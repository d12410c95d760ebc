/-
  What is kept but for one block; one element as the source of an append.
-/
import Derived.Test.YtanjggdmgeedlaaGreatDoorBase
import Derived.Test.YtanjggdmgeedlaaGreatDoorBlkG
import Derived.Test.YtanjggdmgeedlaaGreatDoorWld
namespace Go.Proofs.YtanjggdmgeedlaaGreatDoor
set_option linter.unusedVariables false
set_option linter.unusedSimpArgs false
open Go.RowKit Go.Shelf Go.Lib

/-! what is kept but for one block -/
theorem gb_refl (W : World) (g : Nat) : W.grownBy W (some g) := ⟨rfl, rfl, rfl, Nat.le_refl _, fun _ _ _ => rfl⟩
theorem gb_below {W0 w w' : World} {g : Nat} (h : W0.grownBy w (some g)) (hb : Below w.heap.size w w') : W0.grownBy w' (some g) :=
  ⟨hb.os.trans h.os, hb.tape.trans h.tape, hb.output.trans h.output, Nat.le_trans h.size hb.size, fun k hk hne => (hb.block k (Nat.lt_of_lt_of_le hk h.size)).trans (h.block k hk hne)⟩
theorem gb_alloc {W0 w : World} {g : Nat} (h : W0.grownBy w (some g)) (o : Obj) : W0.grownBy (w.alloc o) (some g) := gb_below h ((Below.refl _ _).alloc (Nat.le_refl _) o)
theorem gb_drew {W0 w : World} {g : Nat} (h : W0.grownBy w (some g)) : W0.grownBy w.drew (some g) := gb_below h ((Below.refl _ _).drew)
theorem gb_grown {W0 w w' : World} {g : Nat} {v : Value} (h : W0.grownBy w (some g)) (hg : w.grownBy w' v.ownBlock) (hv : ∀ k, v.ownBlock = some k → W0.heap.size ≤ k) : W0.grownBy w' (some g) :=
  ⟨hg.os.trans h.os, hg.tape.trans h.tape, hg.output.trans h.output, Nat.le_trans h.size hg.size, fun k hk hne => (hg.block k (Nat.lt_of_lt_of_le hk h.size) (fun e => by have := hv k e.symm; omega)).trans (h.block k hk hne)⟩
theorem gb_set {W0 w : World} {g : Nat} (h : W0.grownBy w (some g)) (j : Nat) (u : Value) : W0.grownBy (w.setCell ⟨g, j, none⟩ u) (some g) :=
  ⟨h.os, h.tape, h.output, by have := h.size; simpa [World.setCell] using this, fun k hk hne => (Below.heap_setCell w ⟨g, j, none⟩ u k (fun e => hne (by rw [e]))).trans (h.block k hk hne)⟩
theorem gb_cell {W0 w : World} {g : Nat} (h : W0.grownBy w (some g)) {a : Addr} (hlt : a.block < W0.heap.size) (hne : a.block ≠ g) : w.cell? a = W0.cell? a := World.cell?_of_block (h.block a.block hlt (by simpa using hne))
theorem gb_srow {W0 w : World} {g : Nat} (h : W0.grownBy w (some g)) {a : Option Addr} {cap : Nat} {A : List Nm} (hr : SRow W0 a cap A) (hne : ∀ ad, a = some ad → ad.block ≠ g) : SRow w a cap A := by
  obtain ⟨h1, h2 | ⟨b, off, rfl, hlt, hc⟩⟩ := hr
  · exact ⟨h1, Or.inl h2⟩
  · exact ⟨h1, Or.inr ⟨b, off, rfl, Nat.lt_of_lt_of_le hlt h.size, fun j x hx => by rw [gb_cell h (a := ⟨b, off + j, none⟩) hlt (hne ⟨b, off, none⟩ rfl)]; exact hc j x hx⟩⟩
theorem gb_to_below {W W0 w : World} {g : Nat} (hb : Below W.heap.size W W0) (h : W0.grownBy w (some g)) (hg : W.heap.size ≤ g) : Below W.heap.size W w :=
  hb.trans ⟨h.os, h.tape, h.output, h.size, fun k hk => h.block k (Nat.lt_of_lt_of_le hk hb.size) (fun e => by simp at e; omega)⟩
theorem blk_grown {W w' : World} {g : Nat} {T : TypeId} {cs : Array Value} {v : Value} (h : Blk W g T cs) (hg : W.grownBy w' v.ownBlock) (hv : v.ownBlock ≠ some g) : Blk w' g T cs := (hg.block g h.lt (fun e => hv e.symm)).trans h
theorem block_set1 {w : World} {K j : Nat} {cs : Array Value} {t : TypeId} {fr : Nat × Nat} (h : w.heap[K]? = some (.cells cs t fr)) (v : Value) : (w.setCell ⟨K, j, none⟩ v).heap[K]? = some (.cells (cs.setIfInBounds j v) t fr) := by
  show (w.heap.modify K _)[K]? = _
  rw [Array.getElem?_modify, if_pos rfl, h]
  rfl
theorem blk_set {W : World} {g : Nat} {T : TypeId} {cs : Array Value} (h : Blk W g T cs) (j : Nat) (u : Value) : Blk (W.setCell ⟨g, j, none⟩ u) g T (cs.setIfInBounds j u) := block_set1 h u
theorem own_set {w : World} {B : Nat} {e : TypeId} {size : Nat} {v : Value} {n : Nat} {xs : List Value} (h : w.ownsRow B e size v n xs) {g j : Nat} (hne : v.ownBlock ≠ some g) (u : Value) : (w.setCell ⟨g, j, none⟩ u).ownsRow B e size v n xs :=
  h.kept (row := some g) (gb_set (gb_refl w g) j u) (Or.inr hne)

theorem zip_take {f : Nm → Nm → Nm} : ∀ {A B : List Nm} {k : Nat} {x y : Nm}, A[k]? = some x → B[k]? = some y → (List.zipWith f A B).take (k + 1) = (List.zipWith f A B).take k ++ [f x y]
  | [], B, k, x, y, h, _ => by simp at h
  | a :: A, [], k, x, y, _, h => by simp at h
  | a :: A, b :: B, 0, x, y, h, h' => by
    simp at h h'; subst h; subst h'
    simp
  | a :: A, b :: B, k + 1, x, y, h, h' => by
    have ih := zip_take (f := f) (A := A) (B := B) (k := k) (x := x) (y := y) (by simpa using h) (by simpa using h')
    simp only [List.zipWith_cons_cons, List.take_succ_cons, List.cons_append, ih]

theorem one_src (W : World) (cs : List Value) (t : TypeId) (size g : Nat) (hg : g = W.heap.size) (hl : cs.length = size) (h1 : ∀ u ∈ cs, u.oneCell' = true) : SrcRow (W.alloc (.cells cs.toArray t)) size (.slice (some ⟨g, 0, none⟩) 1 1) 1 cs := by
  subst hg
  exact ⟨by omega, h1, Or.inr ⟨_, 1, rfl, fun j u hj => new_cells W cs t j u hj⟩⟩
theorem one_grown {W w3 : World} {cs : List Value} {size g b n c : Nat} (h : SrcRow W size (.slice (some ⟨g, 0, none⟩) 1 1) 1 cs) (hg : W.grownBy w3 (Value.slice (some ⟨b, 0, none⟩) n c).ownBlock) (hlt : g < W.heap.size) (hne : g ≠ b) : SrcRow w3 size (.slice (some ⟨g, 0, none⟩) 1 1) 1 cs :=
  h.moved (fun k hk => hg.block k (by simp [Value.ownBlock] at hk; omega) (by simp [Value.ownBlock] at hk ⊢; omega))
theorem one_drew {W : World} {cs : List Value} {size g : Nat} (h : SrcRow W size (.slice (some ⟨g, 0, none⟩) 1 1) 1 cs) : SrcRow W.drew size (.slice (some ⟨g, 0, none⟩) 1 1) 1 cs := h
theorem one_alloc {W : World} {cs : List Value} {size g : Nat} (h : SrcRow W size (.slice (some ⟨g, 0, none⟩) 1 1) 1 cs) (hlt : g < W.heap.size) (o : Obj) : SrcRow (W.alloc o) size (.slice (some ⟨g, 0, none⟩) 1 1) 1 cs :=
  h.moved (fun k hk => by simp [Value.ownBlock] at hk; subst hk; exact Below.heap_alloc W o g hlt)
theorem gb_grown0 {w w' : World} {g : Nat} (h : w.grownBy w' (some g)) : w.grownBy w' (some g) := h
theorem gb_blk {W0 w : World} {g j : Nat} {T : TypeId} {cs : Array Value} (h : W0.grownBy w (some g)) (hb : Blk W0 j T cs) (hne : j ≠ g) : Blk w j T cs := (h.block j hb.lt (by simpa using hne)).trans hb
theorem gb_trans {a b c : World} {g : Nat} (h : a.grownBy b (some g)) (k : b.grownBy c (some g)) : a.grownBy c (some g) :=
  ⟨k.os.trans h.os, k.tape.trans h.tape, k.output.trans h.output, Nat.le_trans h.size k.size, fun i hi hne => (k.block i (Nat.lt_of_lt_of_le hi h.size) hne).trans (h.block i hi hne)⟩
end Go.Proofs.YtanjggdmgeedlaaGreatDoor
