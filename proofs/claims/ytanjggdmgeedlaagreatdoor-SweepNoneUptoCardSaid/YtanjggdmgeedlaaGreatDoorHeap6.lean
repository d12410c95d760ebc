/-
  The walks of heap.Zero, slices.Clone of values, heap.Copy.
-/
import Derived.Test.YtanjggdmgeedlaaGreatDoorHeap5
import Derived.Test.YtanjggdmgeedlaaGreatDoorGb
import Derived.Deep.RegionHeld3
import Derived.Lib.BufferMore
namespace Go.Proofs.YtanjggdmgeedlaaGreatDoor
set_option linter.unusedVariables false
set_option linter.unusedSimpArgs false
open Go.RowKit Go.Shelf Go.Lib

def zeroV (t : Nm) : ValR := if t = [73] then ⟨1, 0⟩ else if t = [74] then ⟨2, 0⟩ else ⟨3, 0⟩
set_option maxRecDepth 100000 in
theorem zero_calls (t : Nm) (w : World) : Calls Tryz.prog 58 #[.string ⟨⟨t⟩⟩] w fun e w' => e = .returned (.agg #[.int .i64 (zeroV t).kind, .int .i64 (zeroV t).n]) ∧ Below w.heap.size w w' := by
  have HB := Lib.hid (fun o => bl_alloc (Below.refl w.heap.size w) o)
  by_cases h1 : t = [73]
  · have HR := Lib.hid (show zeroV t = ⟨1, 0⟩ by unfold zeroV; rw [if_pos h1])
    subst h1
    go_enter Tryz.func58, Tryz.ntmps58
    go_wp2_with fail
    exact bodyPost_ret (v := .agg #[.int .i64 1, .int .i64 0]) (by simp [results, Tryz.results58, go_sem]) rfl ⟨by rw [HR.out], HB.out _⟩
  · have q1 : (t == [73]) = false := by rw [beq_eq_false_iff_ne]; exact h1
    by_cases h2 : t = [74]
    · have HR := Lib.hid (show zeroV t = ⟨2, 0⟩ by unfold zeroV; rw [if_neg h1, if_pos h2])
      subst h2
      clear h1
      go_enter Tryz.func58, Tryz.ntmps58
      go_wp2_with fail
      exact bodyPost_ret (v := .agg #[.int .i64 2, .int .i64 0]) (by simp [results, Tryz.results58, go_sem]) rfl ⟨by rw [HR.out], HB.out _⟩
    · have HR := Lib.hid (show zeroV t = ⟨3, 0⟩ by unfold zeroV; rw [if_neg h1, if_neg h2])
      have q2 : (t == [74]) = false := by rw [beq_eq_false_iff_ne]; exact h2
      clear h1 h2
      go_enter Tryz.func58, Tryz.ntmps58
      go_wp2_with fail
      exact bodyPost_ret (v := .agg #[.int .i64 3, .int .i64 0]) (by simp [results, Tryz.results58, go_sem]) rfl ⟨by rw [HR.out], HB.out _⟩

/-- values in a row of the call's own -/
def valsL (l : List ValR) : List Value := (l.map vCells).flatten
theorem vCells_one (v : ValR) : ∀ u ∈ vCells v, u.oneCell' = true := by
  intro u hu
  simp only [vCells, List.mem_cons, List.mem_nil_iff, or_false] at hu
  rcases hu with rfl | rfl <;> rfl
theorem valsL_len (l : List ValR) : (valsL l).length = l.length * 2 := by
  unfold valsL
  induction l with
  | nil => rfl
  | cons x r ih => simp only [List.map_cons, List.flatten_cons, List.length_append, ih, List.length_cons]; simp [vCells]; omega
theorem valsL_one (l : List ValR) : ∀ u ∈ valsL l, u.oneCell' = true := by
  intro u hu
  unfold valsL at hu
  obtain ⟨c, hc, hu⟩ := List.mem_flatten.1 hu
  obtain ⟨v, _, rfl⟩ := List.mem_map.1 hc
  exact vCells_one v u hu
def OwnV (w : World) (B : Nat) (l : List ValR) (q : HA) : Prop := w.ownsRow B 37 2 (.slice q.1 l.length q.2) l.length (valsL l)
theorem OwnV.at {w : World} {B : Nat} {l : List ValR} {q : HA} (h : OwnV w B l q) : HasAt w l q := by
  have h' : w.ownsRow B 37 2 (.slice q.1 l.length q.2) (l.map vCells).length (l.map vCells).flatten := by rw [List.length_map]; exact h
  obtain ⟨a, cap, h1, h2⟩ := rows_of_own h' (by intro c hc; obtain ⟨x, _, rfl⟩ := List.mem_map.1 hc; rfl)
  simp only [Value.slice.injEq] at h1
  obtain ⟨rfl, _, rfl⟩ := h1
  exact h2
theorem src_rows {w : World} {a : Option Addr} {cap size : Nat} {L : List (List Value)} (h : RowsAt w size a cap L) (hs : 0 < size) (hL : ∀ c ∈ L, c.length = size) (h1 : ∀ c ∈ L, ∀ u ∈ c, u.oneCell' = true) : Src0 w size (.slice a L.length cap) L.length L.flatten := by
  have hlen : L.flatten.length = L.length * size := by
    clear h h1
    induction L with
    | nil => simp
    | cons x r ih => simp only [List.flatten_cons, List.length_append, ih (fun c hc => hL c (by simp [hc])), List.length_cons, hL x (by simp), Nat.succ_mul]; omega
  have hone : ∀ u ∈ L.flatten, u.oneCell' = true := by
    intro u hu
    obtain ⟨c, hc, hu⟩ := List.mem_flatten.1 hu
    exact h1 c hc u hu
  obtain ⟨hle, h2 | ⟨b, off, rfl, _, hc⟩⟩ := h
  · subst h2
    cases a with
    | none => exact Or.inl ⟨cap, rfl, rfl, rfl⟩
    | some ad => exact Or.inr ⟨hlen, hone, Or.inr ⟨ad, cap, rfl, fun j u hj => by simp at hj⟩⟩
  · refine Or.inr ⟨hlen, hone, Or.inr ⟨_, cap, rfl, fun j u hj => ?_⟩⟩
    obtain ⟨cs, h3, h4⟩ := flat_at _ size j u hs hL hj
    have h5 := hc (j / size) cs h3 (j % size) u h4
    have e : (⟨b, off, none⟩ : Addr).add j = ⟨b, off + j / size * size + j % size, none⟩ := by
      have e1 : (⟨b, off, none⟩ : Addr).add j = ⟨b, off + j, none⟩ := by unfold Addr.add; split <;> simp_all
      rw [e1]
      congr 1
      have := Nat.div_add_mod j size
      rw [Nat.mul_comm] at this
      omega
    rw [e]; exact h5

theorem own_keep {w w' : World} {B : Nat} {e : TypeId} {size : Nat} {v : Value} {n : Nat} {xs : List Value} (h : w.ownsRow B e size v n xs) (hk : ∀ g, v.ownBlock = some g → w'.heap[g]? = w.heap[g]?) : w'.ownsRow B e size v n xs := by
  refine ⟨h.1, ?_⟩
  rcases h.2 with h1 | ⟨g, cap, cur, hv, hB, hg, h3⟩
  · exact Or.inl h1
  · exact Or.inr ⟨g, cap, cur, hv, hB, (hk g (by rw [hv]; rfl)).trans hg, h3⟩
/-- values' rows and another type's row are apart -/
theorem own_apart {w : World} {B B' : Nat} {e e' : TypeId} {size size' : Nat} {v v' : Value} {n n' : Nat} {xs xs' : List Value} (h : w.ownsRow B e size v n xs) (h' : w.ownsRow B' e' size' v' n' xs') (hne : e ≠ e') {g : Nat} (hg : v.ownBlock = some g) : v'.ownBlock ≠ some g := by
  intro hg'
  rcases h.2 with ⟨rfl, _⟩ | ⟨k, _, _, rfl, _, hk, _⟩
  · cases hg
  rcases h'.2 with ⟨rfl, _⟩ | ⟨k', _, _, rfl, _, hk', _⟩
  · cases hg'
  simp only [Value.ownBlock, Option.some.injEq] at hg hg'
  subst hg hg'
  rw [hk] at hk'
  simp only [Option.some.injEq, Obj.cells.injEq] at hk'
  exact hne hk'.2.1

theorem rowVal : RowT Tryz.prog 31 37 2 16 := RowT.mk' (z := .agg #[.int .i64 0, .int .i64 0]) Tryz.underlying31 (by kernel_rfl) rfl (by decide)
theorem rowThing : RowT Tryz.prog 23 33 2 40 := RowT.mk' (z := .agg #[.string ByteArray.empty, .slice none 0 0]) Tryz.underlying23 (by kernel_rfl) rfl (by decide)

set_option maxRecDepth 100000 in
set_option maxHeartbeats 1000000 in
theorem vclone_calls (l : List ValR) (p : HA) (w : World) (h : HasAt w l p) (hl : l.length ≤ 100000) :
    Calls Tryz.prog 59 #[.slice p.1 l.length p.2] w fun e w' => ∃ q : HA, e = .returned (.slice q.1 l.length q.2) ∧ OwnV w' w.heap.size l q ∧ Below w.heap.size w w' := by
  obtain ⟨a, cap⟩ := p
  have HS := Lib.hid (fun W (hw : Below w.heap.size w W) => (show Src0 W 2 (.slice a l.length cap) l.length (valsL l) from by
    have hs := src_rows (h.below hw) (by decide) (fun c hc => by obtain ⟨v, _, rfl⟩ := List.mem_map.1 hc; rfl) (fun c hc => by obtain ⟨v, _, rfl⟩ := List.mem_map.1 hc; exact vCells_one v)
    rw [List.length_map] at hs
    exact hs))
  cases a with
  | none =>
    have h0 : l = [] := by
      obtain ⟨_, h2 | ⟨b, off, h3, _⟩⟩ := h
      · simpa using h2
      · cases h3
    subst h0
    have hnil : ∀ W, (binOp .eql 31 (.slice none 0 cap) (.slice none 0 0)).run Tryz.prog W = .ok (.bool true) W := fun W => Lib.run_eql_slice_nil_nil W _ _ Tryz.underlying31
    clear h HS
    simp only [List.length_nil]
    go_enter Tryz.func59, Tryz.ntmps59
    go_wp2_with fail
    go_ret
    exact ⟨(none, 0), rfl, ⟨rfl, Or.inl ⟨rfl, rfl⟩⟩, Below.refl _ _⟩
  | some ad =>
    have hnil : ∀ W, (binOp .eql 31 (.slice (some ad) l.length cap) (.slice none 0 0)).run Tryz.prog W = .ok (.bool false) W := fun W => Lib.run_eql_slice_some_nil W _ _ _ Tryz.underlying31
    clear h
    go_enter Tryz.func59, Tryz.ntmps59
    go_wp2_with (at_builtin; refine wpList_append_src0 rowVal rfl _ _ rfl w.heap.size _ 0 [] rfl ?c0 _ l.length (valsL l) rfl (HS.out _ (bl_alloc (Below.refl _ _) _)) ?c2 ?c3 ?c4 ?_)
    case c0 => exact World.ownsRow_lit _ _ 0 (Nat.le_refl _) (by unfold maxLen; omega) rfl
    case c2 => omega
    case c3 => omega
    case c4 => simp
    intro v w2 ho hg
    obtain ⟨a2, c2, rfl, _⟩ := slice_of_own ho
    have HO := Lib.hid ho
    have HB := Lib.hid (show Below w.heap.size w w2 from (bl_alloc (Below.refl _ _) _).trans ⟨hg.os, hg.tape, hg.output, hg.size, fun k hk => hg.block k (by simp; omega) (by simp [Value.ownBlock]; omega)⟩)
    clear ho hg
    go_wp2_with fail
    go_ret
    exact ⟨(a2, c2), rfl, HO.out, HB.out⟩
end Go.Proofs.YtanjggdmgeedlaaGreatDoor
