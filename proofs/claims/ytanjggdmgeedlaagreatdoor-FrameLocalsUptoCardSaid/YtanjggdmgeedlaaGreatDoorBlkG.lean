/-
  A block known whole: read, and written over by a struct (whatever program).
-/
import Derived.Test.YtanjggdmgeedlaaGreatDoorBase
import Derived.Laws.Tables
import Derived.Laws.Rows
import Derived.StillTailTactics
namespace Go.Proofs.YtanjggdmgeedlaaGreatDoor
set_option linter.unusedVariables false
set_option linter.unusedSimpArgs false
open Go.RowKit

def Blk (W : World) (g : Nat) (T : TypeId) (cs : Array Value) : Prop := W.heap[g]? = some (.cells cs T (0, 0))
theorem Blk.lt {W : World} {g : Nat} {T : TypeId} {cs : Array Value} (h : Blk W g T cs) : g < W.heap.size := (Array.getElem?_eq_some_iff.1 h).1
theorem Blk.below {W W' : World} {g : Nat} {T : TypeId} {cs : Array Value} (h : Blk W g T cs) (hb : Below W.heap.size W W') : Blk W' g T cs := (hb.block g h.lt).trans h
theorem Blk.cell {W : World} {g : Nat} {T : TypeId} {cs : Array Value} (h : Blk W g T cs) (j : Nat) : W.cell? ⟨g, j, none⟩ = cs[j]? := by unfold Blk at h; simp [World.cell?, h]
theorem Blk.frozen {W : World} {g : Nat} {T : TypeId} {cs : Array Value} (h : Blk W g T cs) (j : Nat) : W.frozen? ⟨g, j, none⟩ = false := by unfold Blk at h; simp [World.frozen?, h]
theorem blk_new (W : World) (g : Nat) (T : TypeId) (cs : Array Value) (hg : g = W.heap.size) : Blk (W.alloc (.cells cs T)) g T cs := by subst hg; exact (MapKept.heap_alloc W _).1
/-- the frame of a write to one block -/
theorem below_grown {w0 W W2 : World} {B g : Nat} (h : Below B w0 W) (hg : W.grownBy W2 (some g)) (hB : B ≤ g) (hs : B ≤ W.heap.size) : Below B w0 W2 :=
  h.trans ⟨hg.os, hg.tape, hg.output, hg.size, fun k hk => hg.block k (by omega) (by intro e; simp at e; omega)⟩
theorem Blk.other {W W2 : World} {g g' : Nat} {T : TypeId} {cs : Array Value} (h : Blk W g T cs) (hg : W.grownBy W2 (some g')) (hne : g ≠ g') : Blk W2 g T cs := (hg.block g h.lt (by simpa using hne)).trans h

theorem setRow_grown (w : World) (g : Nat) (cs : Array Value) : w.grownBy (w.setRow g cs) (some g) := by
  refine ⟨rfl, rfl, rfl, by simp [World.setRow], fun k hk hne => ?_⟩
  have hk' : g ≠ k := fun e => hne (by rw [e])
  show (w.heap.modify g _)[k]? = _
  rw [Array.getElem?_modify, if_neg hk']

section
variable {P : Program}
theorem wp_store_blk {o : Oper} {a : Act} {w : World} {K : Act → World → Prop} {Q : Exit → Act → World → Prop} {ty : TypeId} {x y : Operand} (ho : o.op = .store ty x y)
    {g : Nat} {cells : Array Value} (hx : a.eval x = .pointer (some ⟨g, 0, none⟩)) (hy : a.eval y = .agg cells) {old : Array Value} (hg : Blk w g ty old) (hi : (P.info? ty).map (·.size) = some cells.size)
    (hold : old.size = cells.size) (h1 : cells.all (·.oneCell') = true) (h : ∀ W2, Blk W2 g ty cells → w.grownBy W2 (some g) → K (a.put o.dst undef) W2) : o.wp P a w K Q :=
  wp_store_row ty x y ho g cells hx hy ty old hg hi hold h1 (h _ (setRow_heap w g old cells ty (0, 0) hg) (setRow_grown w g cells))
theorem wpList_store_blk {ops : Array Oper} {rest : List Oper} {o : Oper} {a : Act} {w : World} {Q : Exit → Act → World → Prop} (hgd : o.guard = none) {ty : TypeId} {x y : Operand} (ho : o.op = .store ty x y)
    {g : Nat} {cells : Array Value} (hx : a.eval x = .pointer (some ⟨g, 0, none⟩)) (hy : a.eval y = .agg cells) {old : Array Value} (hg : Blk w g ty old) (hi : (P.info? ty).map (·.size) = some cells.size)
    (hold : old.size = cells.size) (h1 : cells.all (·.oneCell') = true) (h : ∀ W2, Blk W2 g ty cells → w.grownBy W2 (some g) → wpList P ops Q rest (a.put o.dst undef) W2) : wpList P ops Q (o :: rest) a w :=
  wpList_plain hgd fun _ hK => wp_store_blk ho hx hy hg hi hold h1 (fun W2 h2 h3 => hK _ _ (h W2 h2 h3))
theorem step_store_blk {ops : Array Oper} {o : Oper} {a : Act} {w : World} {K : Act → World → Prop} {Q : Exit → Act → World → Prop} {E : Prop} (hgd : o.guard = none) {ty : TypeId} {x y : Operand} (ho : o.op = .store ty x y)
    {g : Nat} {cells : Array Value} (hx : a.eval x = .pointer (some ⟨g, 0, none⟩)) (hy : a.eval y = .agg cells) {old : Array Value} (hg : Blk w g ty old) (hi : (P.info? ty).map (·.size) = some cells.size)
    (hold : old.size = cells.size) (h1 : cells.all (·.oneCell') = true) (h : ∀ W2, Blk W2 g ty cells → w.grownBy W2 (some g) → K (a.put o.dst undef) W2) :
    if Region.wanted o (yielded ops a.tmps) = true then Oper.wp P o a w K Q else E := by
  have hw : Region.wanted o (yielded ops a.tmps) = true := by simp [Region.wanted, hgd]
  rw [if_pos hw]
  exact wp_store_blk ho hx hy hg hi hold h1 h
end
theorem wp_tail {P : Program} {id : Nat} {Q : Exit → Act → World → Prop} {a : Act} {w : World} {l : List Oper} (n : Nat) (hm : P.follows .mixedOrders = true) (hB : Region.lexTailB .any l.toArray n = true)
    (h : wpStill P l.toArray w.drew (fun a' => wpList P l.toArray Q (l.drop n) a' w.drew) (l.take n) a) : (Code.region id l.toArray true).wp P Q a w := wp_region_still_tail n hm hB h
theorem Blk.drew {W : World} {g : Nat} {T : TypeId} {cs : Array Value} (h : Blk W g T cs) : Blk W.drew g T cs := h
theorem Blk.alloc {W : World} {g : Nat} {T : TypeId} {cs : Array Value} (h : Blk W g T cs) (o : Obj) : Blk (W.alloc o) g T cs := h.below ((Below.refl _ _).alloc (Nat.le_refl _) o)
theorem Blk.drewN {W : World} {g : Nat} {T : TypeId} {cs : Array Value} (h : Blk W g T cs) (k : Nat) : Blk (W.drewN k) g T cs := h
end Go.Proofs.YtanjggdmgeedlaaGreatDoor
