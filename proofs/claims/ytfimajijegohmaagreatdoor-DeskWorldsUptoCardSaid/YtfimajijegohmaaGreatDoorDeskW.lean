/-
  DeskWorlds: the commands after commands; the list in step with the desk.
-/
import Derived.Test.YtfimajijegohmaaGreatDoorDd
import Derived.Test.YtfimajijegohmaaGreatDoorInsBase
import Derived.Test.YtfimajijegohmaaGreatDoorFrame
namespace Go.Proofs.YtfimajijegohmaaGreatDoor
set_option linter.unusedVariables false
set_option linter.unusedSimpArgs false
open Go.RowKit Go.Shelf Go.Lib

/-- the classes after commands -/
noncomputable def stL (l : List ClassR) (cs : List Cmd) : List ClassR := cs.foldl Cmd.next l
theorem outs_app : ∀ (A B : List Cmd) (l : List ClassR), outs l (A ++ B) = outs l A ++ outs (stL l A) B
  | [], _, _ => rfl
  | c :: A, B, l => by
    rw [List.cons_append]
    show c.ans l :: outs (c.next l) (A ++ B) = c.ans l :: (outs (c.next l) A ++ outs (stL (c.next l) A) B)
    rw [outs_app A B]
theorem outs_len : ∀ (A : List Cmd) (l : List ClassR), (outs l A).length = A.length
  | [], _ => rfl
  | c :: A, l => by
    show (outs (c.next l) A).length + 1 = A.length + 1
    rw [outs_len A]
theorem stL_snoc (A : List Cmd) (c : Cmd) (l : List ClassR) : stL l (A ++ [c]) = c.next (stL l A) := by
  unfold stL
  rw [List.foldl_append]
  rfl
theorem name_bytes {x : Nm} (h : nameOk x = true) : (∀ b ∈ x, b ≠ 32 ∧ b ≠ 10) ∧ x.length ≤ 20 := by
  unfold nameOk at h
  simp only [Bool.and_eq_true, decide_eq_true_eq, List.all_eq_true] at h
  refine ⟨fun b hb => ?_, h.1.1.2⟩
  have h1 := h.1.2 b hb
  constructor
  · intro e; subst e; exact absurd h1 (by decide)
  · intro e; subst e; exact absurd h1 (by decide)
def CmdOk (c : Cmd) : Prop := c.Fit ∧ ∀ b ∈ c.text, b ≠ 10
theorem cmd_ok {c : Cmd} (h1 : ∀ b ∈ c.a1, b ≠ 32 ∧ b ≠ 10) (h2 : ∀ b ∈ c.a2, b ≠ 32 ∧ b ≠ 10) (l1 : c.a1.length ≤ 1048576) (l2 : c.a2.length ≤ 1048576) : CmdOk c := by
  refine ⟨⟨fun b hb => (h1 b hb).1, fun b hb => (h2 b hb).1, l1, l2⟩, fun b hb => ?_⟩
  unfold Cmd.text at hb
  simp only [List.mem_append, List.mem_cons] at hb
  rcases hb with h | rfl | h | rfl | h
  · exact (head_ok c).2.1 b h
  · decide
  · exact (h1 b h).2
  · decide
  · exact (h2 b h).2
/-- the law's own list, in step with the desk's -/
def Step2 (W : World) (B : Nat) (v : Value) (s : Nm) (k : Nat) (cs : List Cmd) (l : List ClassR) (ps : List CAddr) : Prop :=
  Plain2 l ps ∧ ClsOk l ∧ l = stL [] cs ∧ s = ends 10 (cs.map Cmd.text) ∧ cs.length = k ∧ l.length ≤ k ∧ (∀ c ∈ cs, CmdOk c) ∧ W.ownsRow B 31 6 v l.length (List.zipWith classCells l ps).flatten
theorem Step2.below {W W' : World} {B : Nat} {v : Value} {s : Nm} {k : Nat} {cs : List Cmd} {l : List ClassR} {ps : List CAddr} (h : Step2 W B v s k cs l ps) (hb : Below W.heap.size W W') : Step2 W' B v s k cs l ps :=
  ⟨h.1, h.2.1, h.2.2.1, h.2.2.2.1, h.2.2.2.2.1, h.2.2.2.2.2.1, h.2.2.2.2.2.2.1, own_below h.2.2.2.2.2.2.2 hb⟩

theorem own_two (W : World) (o : Obj) (t : TypeId) (size : Nat) : ((W.alloc o).alloc (.cells #[] t)).ownsRow W.heap.size t size (.slice (some ⟨W.heap.size + 1, 0, none⟩) 0 0) 0 [] := by
  have h := World.ownsRow_made (base := W.heap.size) (e := t) (size := size) (W.alloc o) #[] 0 (by simp) (by unfold maxLen; omega) (by simp)
  have e : (W.alloc o).heap.size = W.heap.size + 1 := by simp
  rw [e] at h
  exact h

end Go.Proofs.YtfimajijegohmaaGreatDoor
