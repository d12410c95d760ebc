/-
  A MAP KEYED BY int, OF WHATEVER ELEMENTS: block b holds at most n entries; at key z stands f z. Its laws: made, kept, looked up, a new key stored, a key deleted.
-/
import Derived.Maps.Own
import Derived.Maps.OwnOps
import Derived.WalkKit
import Derived.Below
namespace Go.Proofs.YtanjggdmgeedlaaGreatDoor
set_option linter.unusedVariables false
set_option linter.unusedSimpArgs false
open Go.MapKept Go.ChangeMaps Go.Maps Go.RowKit

def putf (f : Int → Option Value) (z : Int) (v : Value) (y : Int) : Option Value := if y = z then some v else f y
def delf (f : Int → Option Value) (z : Int) (y : Int) : Option Value := if y = z then none else f y
theorem putf_same (f : Int → Option Value) (z : Int) (v : Value) : putf f z v z = some v := by simp [putf]
theorem putf_other (f : Int → Option Value) (z : Int) (v : Value) {y : Int} (h : y ≠ z) : putf f z v y = f y := by simp [putf, h]
theorem delf_same (f : Int → Option Value) (z : Int) : delf f z z = none := by simp [delf]
theorem delf_other (f : Int → Option Value) (z : Int) {y : Int} (h : y ≠ z) : delf f z y = f y := by simp [delf, h]

def IMap (w : World) (b n : Nat) (f : Int → Option Value) : Prop :=
  ∃ es clock, w.heap[b]? = some (.map es clock) ∧ es.size ≤ n ∧ (∀ x ∈ es.toList, ∃ z, x.key = .int .i64 z ∧ (Lit.int .i64 z).wf = true ∧ f z = some x.val) ∧
    (∀ z v, f z = some v → ∃ x ∈ es.toList, x.key = .int .i64 z) ∧ es.toList.Pairwise (fun x y => x.key ≠ y.key)

theorem IMap.made (w : World) : IMap (w.alloc (.map #[] 0)) w.heap.size 0 (fun _ => none) :=
  ⟨#[], 0, (MapKept.heap_alloc w _).1, by simp, by simp, by simp, by simp⟩
theorem IMap.lt {w : World} {b n : Nat} {f : Int → Option Value} (h : IMap w b n f) : b < w.heap.size := by
  obtain ⟨es, clock, hb, _⟩ := h
  exact (Array.getElem?_eq_some_iff.1 hb).1
theorem IMap.kept {w w' : World} {b n : Nat} {f : Int → Option Value} (h : IMap w b n f) (hk : w'.heap[b]? = w.heap[b]?) : IMap w' b n f := by
  obtain ⟨es, clock, hb, r⟩ := h
  exact ⟨es, clock, hk.trans hb, r⟩
theorem IMap.below {w w' : World} {b n : Nat} {f : Int → Option Value} (h : IMap w b n f) (hk : Below w.heap.size w w') : IMap w' b n f := h.kept (hk.block b h.lt)
theorem IMap.cong {w : World} {b n n' : Nat} {f f' : Int → Option Value} (h : IMap w b n f) (hn : n ≤ n') (hf : ∀ z, f' z = f z) : IMap w b n' f' := by
  obtain rfl : f' = f := funext hf
  obtain ⟨es, clock, hb, hs, r⟩ := h
  exact ⟨es, clock, hb, by omega, r⟩

section
variable {P : Program} {w : World} {k t e : TypeId} {b n : Nat} {f : Int → Option Value}

theorem IMap.find (hk : P.underlying k = some (.int .i64)) {es : Array MapEntry} (h : ∀ x ∈ es.toList, ∃ z, x.key = .int .i64 z ∧ (Lit.int .i64 z).wf = true ∧ f z = some x.val) {z : Int} (hz : (Lit.int .i64 z).wf = true) :
    ((Instr.findKey k (.int .i64 z) es.toList).run P w = .ok none w ∧ ∀ x ∈ es.toList, x.key ≠ .int .i64 z) ∨
    ∃ j x, (Instr.findKey k (.int .i64 z) es.toList).run P w = .ok (some (j, x.val)) w ∧ es.toList[j]? = some x ∧ x.key = .int .i64 z ∧ f z = some x.val := by
  have K := int_keyed hk
  rcases K.find w (keyOf_int_mk hk hz) es.toList (fun x hx => by
    obtain ⟨y, hy, hw, _⟩ := h x hx
    exact ⟨_, by rw [hy]; exact keyOf_int_mk hk hw⟩) with h1 | ⟨j, x, h1, h2, h3⟩
  · exact .inl h1
  · obtain ⟨y, hy, _, hf⟩ := h x (List.mem_of_getElem? h2)
    rw [h3] at hy
    cases hy
    exact .inr ⟨j, x, h1, h2, h3, hf⟩

theorem IMap.look_none (hk : P.underlying k = some (.int .i64)) (ht : P.underlying t = some (.map k e)) (h : IMap w b n f) {z : Int} (hz : (Lit.int .i64 z).wf = true) (hf : f z = none) {zv : Value} (hzv : (zeroValue e).run P w = .ok zv w) (c : Bool) :
    (Instr.lookup t (.map (some b)) (.int .i64 z) c).run P w = .ok (if c then .tuple #[zv, .bool false] else zv) w := by
  obtain ⟨es, clock, hb, _, he, _, _⟩ := h
  have K := int_keyed hk
  rcases IMap.find (w := w) hk he hz with ⟨h1, _⟩ | ⟨j, x, _, _, _, h4⟩
  · simp [Instr.lookup, run_underlying ht, MapKept.run_getObj_map hb, K.check w _ (keyOf_int_mk hk hz), h1, hzv, Result.andThen]
  · rw [hf] at h4; cases h4

theorem IMap.look_some (hk : P.underlying k = some (.int .i64)) (ht : P.underlying t = some (.map k e)) (h : IMap w b n f) {z : Int} (hz : (Lit.int .i64 z).wf = true) {v : Value} (hf : f z = some v) (c : Bool) :
    (Instr.lookup t (.map (some b)) (.int .i64 z) c).run P w = .ok (if c then .tuple #[v, .bool true] else v) w := by
  obtain ⟨es, clock, hb, _, he, hex, _⟩ := h
  have K := int_keyed hk
  rcases IMap.find (w := w) hk he hz with ⟨_, h2⟩ | ⟨j, x, h1, _, _, h4⟩
  · obtain ⟨x, hx, hxk⟩ := hex z v hf
    exact absurd hxk (h2 x hx)
  · rw [hf] at h4
    obtain rfl : v = x.val := by simpa using h4
    simp [Instr.lookup, run_underlying ht, MapKept.run_getObj_map hb, K.check w _ (keyOf_int_mk hk hz), h1, Result.andThen]

theorem IMap.store (hk : P.underlying k = some (.int .i64)) (ht : P.underlying t = some (.map k e)) (h : IMap w b n f) {z : Int} (hz : (Lit.int .i64 z).wf = true) (hf : f z = none) (v : Value) :
    ∃ w', (Instr.mapUpdate t (.map (some b)) (.int .i64 z) v).run P w = .ok () w' ∧ IMap w' b (n + 1) (putf f z v) ∧ w.grownBy w' (some b) := by
  obtain ⟨es, clock, hb, hs, he, hex, hd⟩ := h
  have K := int_keyed hk
  rcases IMap.find (w := w) hk he hz with ⟨h1, h2⟩ | ⟨j, x, _, _, _, h4⟩
  · refine ⟨setBlock w b (.map (es.push ⟨.int .i64 z, v, clock⟩) (clock + 1)), ?_, ⟨_, _, heap_setBlock_same hb _, by simp; omega, ?_, ?_, ?_⟩, ⟨rfl, rfl, rfl, by simp [setBlock], fun i _ hi => heap_setBlock_other hb _ (fun e => hi (by rw [e]))⟩⟩
    · simp [Instr.mapUpdate, run_underlying ht, MapKept.run_getObj_map hb, K.check w false (keyOf_int_mk hk hz), h1, MapKept.run_setObj_map _ hb, Result.andThen, setBlock]
    · intro x hx
      simp only [Array.toList_push, List.mem_append, List.mem_singleton] at hx
      rcases hx with hx | rfl
      · obtain ⟨y, hy, hw, hfy⟩ := he x hx
        refine ⟨y, hy, hw, ?_⟩
        rw [putf_other _ _ _ (fun q => h2 x hx (by rw [hy, q])), hfy]
      · exact ⟨z, rfl, hz, putf_same _ _ _⟩
    · intro y u hy
      by_cases e1 : y = z
      · exact ⟨⟨.int .i64 z, v, clock⟩, by simp, by rw [e1]⟩
      · rw [putf_other _ _ _ e1] at hy
        obtain ⟨x, hx, hxk⟩ := hex y u hy
        exact ⟨x, by simp [hx], hxk⟩
    · rw [Array.toList_push, List.pairwise_append]
      refine ⟨hd, by simp, ?_⟩
      intro a ha c hc
      simp only [List.mem_singleton] at hc
      subst hc
      exact h2 a ha
  · rw [hf] at h4; cases h4

theorem IMap.drop {ty : TypeId} (hk : P.underlying k = some (.int .i64)) (ht : P.underlying t = some (.map k e)) (h : IMap w b n f) {z : Int} (hz : (Lit.int .i64 z).wf = true) :
    ∃ w', (Builtin.delete_ #[t, k] ty #[.map (some b), .int .i64 z]).run P w = .ok (.tuple #[]) w' ∧ IMap w' b n (delf f z) ∧ w.grownBy w' (some b) := by
  obtain ⟨es, clock, hb, hs, he, hex, hd⟩ := h
  have K := int_keyed hk
  rcases IMap.find (w := w) hk he hz with ⟨h1, h2⟩ | ⟨j, x, h1, h2, h3, h4⟩
  · refine ⟨setBlock w b (.map es clock), ?_, ⟨es, clock, heap_setBlock_same hb _, hs, ?_, ?_, hd⟩, ⟨rfl, rfl, rfl, by simp [setBlock], fun i _ hi => heap_setBlock_other hb _ (fun e => hi (by rw [e]))⟩⟩
    · simp [Builtin.delete_, run_underlying ht, MapKept.run_getObj_map hb, K.check w _ (keyOf_int_mk hk hz), h1, MapKept.run_setObj_map _ hb, Result.andThen, setBlock]
    · intro x hx
      obtain ⟨y, hy, hw, hfy⟩ := he x hx
      exact ⟨y, hy, hw, by rw [delf_other _ _ (fun q => h2 x hx (by rw [hy, q])), hfy]⟩
    · intro y u hy
      by_cases e1 : y = z
      · rw [e1, delf_same] at hy; cases hy
      · rw [delf_other _ _ e1] at hy
        exact hex y u hy
  · have hjl : j < es.toList.length := (List.getElem?_eq_some_iff.1 h2).1
    have hjs : j < es.size := by simpa using hjl
    have hsub : (es.eraseIdxIfInBounds j).toList = es.toList.eraseIdx j := by
      unfold Array.eraseIdxIfInBounds
      rw [dif_pos hjs]
      simp
    have hne : ∀ x' ∈ es.toList.eraseIdx j, x' ∈ es.toList ∧ x'.key ≠ .int .i64 z := by
      intro x' hx'
      obtain ⟨i, hij, hi⟩ := List.mem_eraseIdx_iff_getElem?.1 hx'
      refine ⟨List.mem_of_getElem? hi, ?_⟩
      obtain ⟨hil, hie⟩ := List.getElem?_eq_some_iff.1 hi
      obtain ⟨_, hje⟩ := List.getElem?_eq_some_iff.1 h2
      have hpw := List.pairwise_iff_getElem.1 hd
      rw [← h3]
      rcases Nat.lt_or_ge i j with hl | hl
      · have := hpw i j hil hjl hl
        rw [hie, hje] at this
        exact this
      · have := hpw j i hjl hil (by omega)
        rw [hie, hje] at this
        exact this.symm
    refine ⟨setBlock w b (.map (es.eraseIdxIfInBounds j) clock), ?_, ⟨_, _, heap_setBlock_same hb _, Nat.le_trans (MapFrom.size_erase es j) hs, ?_, ?_, ?_⟩, ⟨rfl, rfl, rfl, by simp [setBlock], fun i _ hi => heap_setBlock_other hb _ (fun e => hi (by rw [e]))⟩⟩
    · simp [Builtin.delete_, run_underlying ht, MapKept.run_getObj_map hb, K.check w _ (keyOf_int_mk hk hz), h1, MapKept.run_setObj_map _ hb, Result.andThen, setBlock]
    · intro x' hx'
      rw [hsub] at hx'
      obtain ⟨hm, hn⟩ := hne x' hx'
      obtain ⟨y, hy, hw, hfy⟩ := he x' hm
      exact ⟨y, hy, hw, by rw [delf_other _ _ (fun q => hn (by rw [hy, q])), hfy]⟩
    · intro y u hy
      by_cases e1 : y = z
      · rw [e1, delf_same] at hy; cases hy
      · rw [delf_other _ _ e1] at hy
        obtain ⟨x', hx', hxk⟩ := hex y u hy
        refine ⟨x', ?_, hxk⟩
        rw [hsub]
        obtain ⟨i, hi⟩ := List.mem_iff_getElem?.1 hx'
        refine List.mem_eraseIdx_iff_getElem?.2 ⟨i, fun e2 => ?_, hi⟩
        rw [e2, h2] at hi
        obtain rfl : x = x' := by simpa using hi
        rw [h3] at hxk
        cases hxk
        exact e1 rfl
    · rw [hsub]
      exact hd.sublist (List.eraseIdx_sublist _ _)
end

/-! with its exact size: len, a new key stored -/
def IMapN (w : World) (b n : Nat) (f : Int → Option Value) : Prop := IMap w b n f ∧ ∃ es clock, w.heap[b]? = some (.map es clock) ∧ es.size = n
theorem IMapN.made (w : World) : IMapN (w.alloc (.map #[] 0)) w.heap.size 0 (fun _ => none) := ⟨IMap.made w, #[], 0, (MapKept.heap_alloc w _).1, rfl⟩
theorem IMapN.kept {w w' : World} {b n : Nat} {f : Int → Option Value} (h : IMapN w b n f) (hk : w'.heap[b]? = w.heap[b]?) : IMapN w' b n f := by
  obtain ⟨h1, es, clock, hb, r⟩ := h
  exact ⟨h1.kept hk, es, clock, hk.trans hb, r⟩
theorem IMapN.lt {w : World} {b n : Nat} {f : Int → Option Value} (h : IMapN w b n f) : b < w.heap.size := h.1.lt
theorem IMapN.below {w w' : World} {b n : Nat} {f : Int → Option Value} (h : IMapN w b n f) (hk : Below w.heap.size w w') : IMapN w' b n f := h.kept (hk.block b h.lt)
theorem IMapN.cong {w : World} {b n n' : Nat} {f f' : Int → Option Value} (h : IMapN w b n f) (hn : n' = n) (hf : ∀ z, f' z = f z) : IMapN w b n' f' := by
  subst hn
  exact ⟨h.1.cong (Nat.le_refl _) hf, h.2⟩
section
variable {P : Program} {w : World} {k t e : TypeId} {b n : Nat} {f : Int → Option Value}
theorem IMapN.len (ht : P.underlying t = some (.map k e)) (h : IMapN w b n f) (ty : TypeId) : (Builtin.len_ #[t] ty #[.map (some b)]).run P w = .ok (.int .i64 n) w := by
  obtain ⟨_, es, clock, hb, rfl⟩ := h
  simp [Builtin.len_, run_underlying ht, MapKept.run_getObj_map hb, goInt, Result.andThen]
theorem IMapN.store (hk : P.underlying k = some (.int .i64)) (ht : P.underlying t = some (.map k e)) (h : IMapN w b n f) {z : Int} (hz : (Lit.int .i64 z).wf = true) (hf : f z = none) (v : Value) :
    ∃ w', (Instr.mapUpdate t (.map (some b)) (.int .i64 z) v).run P w = .ok () w' ∧ IMapN w' b (n + 1) (putf f z v) ∧ w.grownBy w' (some b) := by
  obtain ⟨h0, es0, clock0, hb0, hn0⟩ := h
  obtain ⟨w', h1, h2, h3⟩ := IMap.store hk ht h0 hz hf v
  refine ⟨w', h1, ⟨h2, ?_⟩, h3⟩
  obtain ⟨es, clock, hb, hs, he, hex, hd⟩ := h0
  rw [hb] at hb0
  simp only [Option.some.injEq, Obj.map.injEq] at hb0
  obtain ⟨rfl, rfl⟩ := hb0
  have K := int_keyed hk
  rcases IMap.find (w := w) hk he hz with ⟨g1, g2⟩ | ⟨j, x, _, _, _, h4⟩
  · have e : (Instr.mapUpdate t (.map (some b)) (.int .i64 z) v).run P w = .ok () (setBlock w b (.map (es.push ⟨.int .i64 z, v, clock⟩) (clock + 1))) := by
      simp [Instr.mapUpdate, run_underlying ht, MapKept.run_getObj_map hb, K.check w false (keyOf_int_mk hk hz), g1, MapKept.run_setObj_map _ hb, Result.andThen, setBlock]
    rw [e] at h1
    simp only [Result.ok.injEq, true_and] at h1
    rw [← h1]
    exact ⟨_, _, heap_setBlock_same hb _, by simp; omega⟩
  · rw [hf] at h4; cases h4
end
end Go.Proofs.YtanjggdmgeedlaaGreatDoor
