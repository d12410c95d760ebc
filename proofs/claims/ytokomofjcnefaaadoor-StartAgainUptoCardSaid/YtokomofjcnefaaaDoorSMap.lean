/-
  A MAP KEYED BY string, OF WHATEVER ELEMENTS: block b holds at most n entries; at key z stands f z. Its laws: made, kept, looked up, a new key stored.
-/
import Derived.Maps.Own
import Derived.Maps.OwnOps
import Derived.WalkKit
import Derived.Below
import Derived.StringKeys
namespace Go.Proofs.YtokomofjcnefaaaDoor
set_option linter.unusedVariables false
set_option linter.unusedSimpArgs false
open Go.MapKept Go.ChangeMaps Go.Maps Go.RowKit

def sputf (f : List UInt8 → Option Value) (z : List UInt8) (v : Value) (y : List UInt8) : Option Value := if y = z then some v else f y
def sdelf (f : List UInt8 → Option Value) (z : List UInt8) (y : List UInt8) : Option Value := if y = z then none else f y
theorem sputf_same (f : List UInt8 → Option Value) (z : List UInt8) (v : Value) : sputf f z v z = some v := by simp [sputf]
theorem sputf_other (f : List UInt8 → Option Value) (z : List UInt8) (v : Value) {y : List UInt8} (h : y ≠ z) : sputf f z v y = f y := by simp [sputf, h]
theorem sdelf_same (f : List UInt8 → Option Value) (z : List UInt8) : sdelf f z z = none := by simp [sdelf]
theorem sdelf_other (f : List UInt8 → Option Value) (z : List UInt8) {y : List UInt8} (h : y ≠ z) : sdelf f z y = f y := by simp [sdelf, h]

def SMap (w : World) (b n : Nat) (f : List UInt8 → Option Value) : Prop :=
  ∃ es clock, w.heap[b]? = some (.map es clock) ∧ es.size ≤ n ∧ (∀ x ∈ es.toList, ∃ z, x.key = .string ⟨⟨z⟩⟩ ∧ z.length ≤ maxLen ∧ f z = some x.val) ∧
    (∀ z v, f z = some v → ∃ x ∈ es.toList, x.key = .string ⟨⟨z⟩⟩) ∧ es.toList.Pairwise (fun x y => x.key ≠ y.key)

theorem SMap.made (w : World) : SMap (w.alloc (.map #[] 0)) w.heap.size 0 (fun _ => none) :=
  ⟨#[], 0, (MapKept.heap_alloc w _).1, by simp, by simp, by simp, by simp⟩
theorem SMap.lt {w : World} {b n : Nat} {f : List UInt8 → Option Value} (h : SMap w b n f) : b < w.heap.size := by
  obtain ⟨es, clock, hb, _⟩ := h
  exact (Array.getElem?_eq_some_iff.1 hb).1
theorem SMap.kept {w w' : World} {b n : Nat} {f : List UInt8 → Option Value} (h : SMap w b n f) (hk : w'.heap[b]? = w.heap[b]?) : SMap w' b n f := by
  obtain ⟨es, clock, hb, r⟩ := h
  exact ⟨es, clock, hk.trans hb, r⟩
theorem SMap.below {w w' : World} {b n : Nat} {f : List UInt8 → Option Value} (h : SMap w b n f) (hk : Below w.heap.size w w') : SMap w' b n f := h.kept (hk.block b h.lt)
theorem SMap.cong {w : World} {b n n' : Nat} {f f' : List UInt8 → Option Value} (h : SMap w b n f) (hn : n ≤ n') (hf : ∀ z, f' z = f z) : SMap w b n' f' := by
  obtain rfl : f' = f := funext hf
  obtain ⟨es, clock, hb, hs, r⟩ := h
  exact ⟨es, clock, hb, by omega, r⟩

theorem skey_mk {P : Program} {k : TypeId} (hk : P.underlying k = some .string) {z : List UInt8} (hz : z.length ≤ maxLen) : keyOf P k (.string ⟨⟨z⟩⟩) = some (.string z) :=
  WideMaps.keyOf_string_mk (s := ⟨⟨z⟩⟩) hk hz

section
variable {P : Program} {w : World} {k t e : TypeId} {b n : Nat} {f : List UInt8 → Option Value}

theorem SMap.find (hk : P.underlying k = some .string) {es : Array MapEntry} (h : ∀ x ∈ es.toList, ∃ z, x.key = .string ⟨⟨z⟩⟩ ∧ z.length ≤ maxLen ∧ f z = some x.val) {z : List UInt8} (hz : z.length ≤ maxLen) :
    ((Instr.findKey k (.string ⟨⟨z⟩⟩) es.toList).run P w = .ok none w ∧ ∀ x ∈ es.toList, x.key ≠ .string ⟨⟨z⟩⟩) ∨
    ∃ j x, (Instr.findKey k (.string ⟨⟨z⟩⟩) es.toList).run P w = .ok (some (j, x.val)) w ∧ es.toList[j]? = some x ∧ x.key = .string ⟨⟨z⟩⟩ ∧ f z = some x.val := by
  have K := string_keyed hk
  rcases K.find w (skey_mk hk hz) es.toList (fun x hx => by
    obtain ⟨y, hy, hw, _⟩ := h x hx
    exact ⟨_, by rw [hy]; exact skey_mk hk hw⟩) with h1 | ⟨j, x, h1, h2, h3⟩
  · exact .inl h1
  · obtain ⟨y, hy, _, hf⟩ := h x (List.mem_of_getElem? h2)
    rw [h3] at hy
    cases hy
    exact .inr ⟨j, x, h1, h2, h3, hf⟩

theorem SMap.look_none (hk : P.underlying k = some .string) (ht : P.underlying t = some (.map k e)) (h : SMap w b n f) {z : List UInt8} (hz : z.length ≤ maxLen) (hf : f z = none) {zv : Value} (hzv : (zeroValue e).run P w = .ok zv w) (c : Bool) :
    (Instr.lookup t (.map (some b)) (.string ⟨⟨z⟩⟩) c).run P w = .ok (if c then .tuple #[zv, .bool false] else zv) w := by
  obtain ⟨es, clock, hb, _, he, _, _⟩ := h
  have K := string_keyed hk
  rcases SMap.find (w := w) hk he hz with ⟨h1, _⟩ | ⟨j, x, _, _, _, h4⟩
  · simp [Instr.lookup, run_underlying ht, MapKept.run_getObj_map hb, K.check w _ (skey_mk hk hz), h1, hzv, Result.andThen]
  · rw [hf] at h4; cases h4

theorem SMap.look_some (hk : P.underlying k = some .string) (ht : P.underlying t = some (.map k e)) (h : SMap w b n f) {z : List UInt8} (hz : z.length ≤ maxLen) {v : Value} (hf : f z = some v) (c : Bool) :
    (Instr.lookup t (.map (some b)) (.string ⟨⟨z⟩⟩) c).run P w = .ok (if c then .tuple #[v, .bool true] else v) w := by
  obtain ⟨es, clock, hb, _, he, hex, _⟩ := h
  have K := string_keyed hk
  rcases SMap.find (w := w) hk he hz with ⟨_, h2⟩ | ⟨j, x, h1, _, _, h4⟩
  · obtain ⟨x, hx, hxk⟩ := hex z v hf
    exact absurd hxk (h2 x hx)
  · rw [hf] at h4
    obtain rfl : v = x.val := by simpa using h4
    simp [Instr.lookup, run_underlying ht, MapKept.run_getObj_map hb, K.check w _ (skey_mk hk hz), h1, Result.andThen]

theorem SMap.store (hk : P.underlying k = some .string) (ht : P.underlying t = some (.map k e)) (h : SMap w b n f) {z : List UInt8} (hz : z.length ≤ maxLen) (hf : f z = none) (v : Value) :
    ∃ w', (Instr.mapUpdate t (.map (some b)) (.string ⟨⟨z⟩⟩) v).run P w = .ok () w' ∧ SMap w' b (n + 1) (sputf f z v) ∧ w.grownBy w' (some b) := by
  obtain ⟨es, clock, hb, hs, he, hex, hd⟩ := h
  have K := string_keyed hk
  rcases SMap.find (w := w) hk he hz with ⟨h1, h2⟩ | ⟨j, x, _, _, _, h4⟩
  · refine ⟨setBlock w b (.map (es.push ⟨.string ⟨⟨z⟩⟩, v, clock⟩) (clock + 1)), ?_, ⟨_, _, heap_setBlock_same hb _, by simp; omega, ?_, ?_, ?_⟩, ⟨rfl, rfl, rfl, by simp [setBlock], fun i _ hi => heap_setBlock_other hb _ (fun e => hi (by rw [e]))⟩⟩
    · simp [Instr.mapUpdate, run_underlying ht, MapKept.run_getObj_map hb, K.check w false (skey_mk hk hz), h1, MapKept.run_setObj_map _ hb, Result.andThen, setBlock]
    · intro x hx
      simp only [Array.toList_push, List.mem_append, List.mem_singleton] at hx
      rcases hx with hx | rfl
      · obtain ⟨y, hy, hw, hfy⟩ := he x hx
        refine ⟨y, hy, hw, ?_⟩
        rw [sputf_other _ _ _ (fun q => h2 x hx (by rw [hy, q])), hfy]
      · exact ⟨z, rfl, hz, sputf_same _ _ _⟩
    · intro y u hy
      by_cases e1 : y = z
      · exact ⟨⟨.string ⟨⟨z⟩⟩, v, clock⟩, by simp, by rw [e1]⟩
      · rw [sputf_other _ _ _ e1] at hy
        obtain ⟨x, hx, hxk⟩ := hex y u hy
        exact ⟨x, by simp [hx], hxk⟩
    · rw [Array.toList_push, List.pairwise_append]
      refine ⟨hd, by simp, ?_⟩
      intro a ha c hc
      simp only [List.mem_singleton] at hc
      subst hc
      exact h2 a ha
  · rw [hf] at h4; cases h4

end
end Go.Proofs.YtokomofjcnefaaaDoor
