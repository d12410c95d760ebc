import Derived.Test.YtbnkckjdgpiggaaGreatDoorBase
namespace Go.Proofs.YtbnkckjdgpiggaaGreatDoor
set_option linter.unusedVariables false
set_option linter.unusedSimpArgs false
open Go.MapKept Go.ChangeMaps Go.Maps Go.RowKit
def zow (f : Int -> Option Value) (z : Int) (v : Value) (y : Int) : Option Value := if y = z then some v else f y
def z74 (f : Int -> Option Value) (z : Int) (y : Int) : Option Value := if y = z then none else f y
theorem zlj (f : Int -> Option Value) (z : Int) (v : Value) : zow f z v z = some v := by simp [zow]
theorem zfi (f : Int -> Option Value) (z : Int) (v : Value) {y : Int} (h : y ≠ z) : zow f z v y = f y := by simp [zow, h]
theorem zqn (f : Int -> Option Value) (z : Int) : z74 f z z = none := by simp [z74]
theorem zhs (f : Int -> Option Value) (z : Int) {y : Int} (h : y ≠ z) : z74 f z y = f y := by simp [z74, h]
def zc7 (w : World) (b n : Nat) (f : Int -> Option Value) : Prop :=
 ∃ es clock, w.heap[b]? = some (.map es clock) /\ es.size <= n /\ (∀ x ∈ es.toList, ∃ z, x.key = .int .i64 z /\ (Lit.int .i64 z).wf = true /\ f z = some x.val) /\
   (∀ z v, f z = some v -> ∃ x ∈ es.toList, x.key = .int .i64 z) /\ es.toList.Pairwise (fun x y => x.key ≠ y.key)
theorem zc7.made (w : World) : zc7 (w.alloc (.map #[] 0)) w.heap.size 0 (fun _ => none) :=
 ⟨#[], 0, (MapKept.heap_alloc w _).1, by simp, by simp, by simp, by simp⟩
theorem zc7.lt {w : World} {b n : Nat} {f : Int -> Option Value} (h : zc7 w b n f) : b < w.heap.size := by
 obtain ⟨es, clock, hb, _⟩ := h
 exact (Array.getElem?_eq_some_iff.1 hb).1
theorem zc7.kept {w w' : World} {b n : Nat} {f : Int -> Option Value} (h : zc7 w b n f) (hk : w'.heap[b]? = w.heap[b]?) : zc7 w' b n f := by
 obtain ⟨es, clock, hb, r⟩ := h
 exact ⟨es, clock, hk.trans hb, r⟩
theorem zc7.below {w w' : World} {b n : Nat} {f : Int -> Option Value} (h : zc7 w b n f) (hk : Below w.heap.size w w') : zc7 w' b n f := h.kept (hk.block b h.lt)
theorem zc7.cong {w : World} {b n n' : Nat} {f f' : Int -> Option Value} (h : zc7 w b n f) (hn : n <= n') (hf : ∀ z, f' z = f z) : zc7 w b n' f' := by
 obtain rfl : f' = f := funext hf
 obtain ⟨es, clock, hb, hs, r⟩ := h
 exact ⟨es, clock, hb, by omega, r⟩
section
variable {P : Program} {w : World} {k t e : TypeId} {b n : Nat} {f : Int -> Option Value}
theorem zc7.find (hk : P.underlying k = some (.int .i64)) {es : Array MapEntry} (h : ∀ x ∈ es.toList, ∃ z, x.key = .int .i64 z /\ (Lit.int .i64 z).wf = true /\ f z = some x.val) {z : Int} (hz : (Lit.int .i64 z).wf = true) :
   ((Instr.findKey k (.int .i64 z) es.toList).run P w = .ok none w /\ ∀ x ∈ es.toList, x.key ≠ .int .i64 z) \/
   ∃ j x, (Instr.findKey k (.int .i64 z) es.toList).run P w = .ok (some (j, x.val)) w /\ es.toList[j]? = some x /\ x.key = .int .i64 z /\ f z = some x.val := by
 have K := int_keyed hk
 rcases K.find w (keyOf_int_mk hk hz) es.toList (fun x hx => by
   obtain ⟨y, hy, hw, _⟩ := h x hx
   exact ⟨_, by rw [hy]; exact keyOf_int_mk hk hw⟩) with h1 | ⟨j, x, h1, h2, h3⟩
 . exact .inl h1
 . obtain ⟨y, hy, _, hf⟩ := h x (List.mem_of_getElem? h2)
   rw [h3] at hy
   cases hy
   exact .inr ⟨j, x, h1, h2, h3, hf⟩
theorem zc7.look_none (hk : P.underlying k = some (.int .i64)) (ht : P.underlying t = some (.map k e)) (h : zc7 w b n f) {z : Int} (hz : (Lit.int .i64 z).wf = true) (hf : f z = none) {zv : Value} (hzv : (zeroValue e).run P w = .ok zv w) (c : Bool) :
   (Instr.lookup t (.map (some b)) (.int .i64 z) c).run P w = .ok (if c then .tuple #[zv, .bool false] else zv) w := by
 obtain ⟨es, clock, hb, _, he, _, _⟩ := h
 have K := int_keyed hk
 rcases zc7.find (w := w) hk he hz with ⟨h1, _⟩ | ⟨j, x, _, _, _, h4⟩
 . simp [Instr.lookup, run_underlying ht, MapKept.run_getObj_map hb, K.check w _ (keyOf_int_mk hk hz), h1, hzv, Result.andThen]
 . rw [hf] at h4; cases h4
theorem zc7.look_some (hk : P.underlying k = some (.int .i64)) (ht : P.underlying t = some (.map k e)) (h : zc7 w b n f) {z : Int} (hz : (Lit.int .i64 z).wf = true) {v : Value} (hf : f z = some v) (c : Bool) :
   (Instr.lookup t (.map (some b)) (.int .i64 z) c).run P w = .ok (if c then .tuple #[v, .bool true] else v) w := by
 obtain ⟨es, clock, hb, _, he, hex, _⟩ := h
 have K := int_keyed hk
 rcases zc7.find (w := w) hk he hz with ⟨_, h2⟩ | ⟨j, x, h1, _, _, h4⟩
 . obtain ⟨x, hx, hxk⟩ := hex z v hf
   exact absurd hxk (h2 x hx)
 . rw [hf] at h4
   obtain rfl : v = x.val := by simpa using h4
   simp [Instr.lookup, run_underlying ht, MapKept.run_getObj_map hb, K.check w _ (keyOf_int_mk hk hz), h1, Result.andThen]
theorem zc7.store (hk : P.underlying k = some (.int .i64)) (ht : P.underlying t = some (.map k e)) (h : zc7 w b n f) {z : Int} (hz : (Lit.int .i64 z).wf = true) (hf : f z = none) (v : Value) :
   ∃ w', (Instr.mapUpdate t (.map (some b)) (.int .i64 z) v).run P w = .ok () w' /\ zc7 w' b (n + 1) (zow f z v) /\ w.grownBy w' (some b) := by
 obtain ⟨es, clock, hb, hs, he, hex, hd⟩ := h
 have K := int_keyed hk
 rcases zc7.find (w := w) hk he hz with ⟨h1, h2⟩ | ⟨j, x, _, _, _, h4⟩
 . refine ⟨setBlock w b (.map (es.push ⟨.int .i64 z, v, clock⟩) (clock + 1)), ?_, ⟨_, _, heap_setBlock_same hb _, by simp; omega, ?_, ?_, ?_⟩, ⟨rfl, rfl, rfl, by simp [setBlock], fun i _ hi => heap_setBlock_other hb _ (fun e => hi (by rw [e]))⟩⟩
   . simp [Instr.mapUpdate, run_underlying ht, MapKept.run_getObj_map hb, K.check w false (keyOf_int_mk hk hz), h1, MapKept.run_setObj_map _ hb, Result.andThen, setBlock]
   . intro x hx
     simp only [Array.toList_push, List.mem_append, List.mem_singleton] at hx
     rcases hx with hx | rfl
     . obtain ⟨y, hy, hw, hfy⟩ := he x hx
       refine ⟨y, hy, hw, ?_⟩
       rw [zfi _ _ _ (fun q => h2 x hx (by rw [hy, q])), hfy]
     . exact ⟨z, rfl, hz, zlj _ _ _⟩
   . intro y u hy
     by_cases e1 : y = z
     . exact ⟨⟨.int .i64 z, v, clock⟩, by simp, by rw [e1]⟩
     . rw [zfi _ _ _ e1] at hy
       obtain ⟨x, hx, hxk⟩ := hex y u hy
       exact ⟨x, by simp [hx], hxk⟩
   . rw [Array.toList_push, List.pairwise_append]
     refine ⟨hd, by simp, ?_⟩
     intro a ha c hc
     simp only [List.mem_singleton] at hc
     subst hc
     exact h2 a ha
 . rw [hf] at h4; cases h4
theorem zc7.drop {ty : TypeId} (hk : P.underlying k = some (.int .i64)) (ht : P.underlying t = some (.map k e)) (h : zc7 w b n f) {z : Int} (hz : (Lit.int .i64 z).wf = true) :
   ∃ w', (Builtin.delete_ #[t, k] ty #[.map (some b), .int .i64 z]).run P w = .ok (.tuple #[]) w' /\ zc7 w' b n (z74 f z) /\ w.grownBy w' (some b) := by
 obtain ⟨es, clock, hb, hs, he, hex, hd⟩ := h
 have K := int_keyed hk
 rcases zc7.find (w := w) hk he hz with ⟨h1, h2⟩ | ⟨j, x, h1, h2, h3, h4⟩
 . refine ⟨setBlock w b (.map es clock), ?_, ⟨es, clock, heap_setBlock_same hb _, hs, ?_, ?_, hd⟩, ⟨rfl, rfl, rfl, by simp [setBlock], fun i _ hi => heap_setBlock_other hb _ (fun e => hi (by rw [e]))⟩⟩
   . simp [Builtin.delete_, run_underlying ht, MapKept.run_getObj_map hb, K.check w _ (keyOf_int_mk hk hz), h1, MapKept.run_setObj_map _ hb, Result.andThen, setBlock]
   . intro x hx
     obtain ⟨y, hy, hw, hfy⟩ := he x hx
     exact ⟨y, hy, hw, by rw [zhs _ _ (fun q => h2 x hx (by rw [hy, q])), hfy]⟩
   . intro y u hy
     by_cases e1 : y = z
     . rw [e1, zqn] at hy; cases hy
     . rw [zhs _ _ e1] at hy
       exact hex y u hy
 . have hjl : j < es.toList.length := (List.getElem?_eq_some_iff.1 h2).1
   have hjs : j < es.size := by simpa using hjl
   have hsub : (es.eraseIdxIfInBounds j).toList = es.toList.eraseIdx j := by
     unfold Array.eraseIdxIfInBounds
     rw [dif_pos hjs]
     simp
   have hne : ∀ x' ∈ es.toList.eraseIdx j, x' ∈ es.toList /\ x'.key ≠ .int .i64 z := by
     intro x' hx'
     obtain ⟨i, hij, hi⟩ := List.mem_eraseIdx_iff_getElem?.1 hx'
     refine ⟨List.mem_of_getElem? hi, ?_⟩
     obtain ⟨hil, hie⟩ := List.getElem?_eq_some_iff.1 hi
     obtain ⟨_, hje⟩ := List.getElem?_eq_some_iff.1 h2
     have hpw := List.pairwise_iff_getElem.1 hd
     rw [<- h3]
     rcases Nat.lt_or_ge i j with hl | hl
     . have := hpw i j hil hjl hl
       rw [hie, hje] at this
       exact this
     . have := hpw j i hjl hil (by omega)
       rw [hie, hje] at this
       exact this.symm
   refine ⟨setBlock w b (.map (es.eraseIdxIfInBounds j) clock), ?_, ⟨_, _, heap_setBlock_same hb _, Nat.le_trans (MapFrom.size_erase es j) hs, ?_, ?_, ?_⟩, ⟨rfl, rfl, rfl, by simp [setBlock], fun i _ hi => heap_setBlock_other hb _ (fun e => hi (by rw [e]))⟩⟩
   . simp [Builtin.delete_, run_underlying ht, MapKept.run_getObj_map hb, K.check w _ (keyOf_int_mk hk hz), h1, MapKept.run_setObj_map _ hb, Result.andThen, setBlock]
   . intro x' hx'
     rw [hsub] at hx'
     obtain ⟨hm, hn⟩ := hne x' hx'
     obtain ⟨y, hy, hw, hfy⟩ := he x' hm
     exact ⟨y, hy, hw, by rw [zhs _ _ (fun q => hn (by rw [hy, q])), hfy]⟩
   . intro y u hy
     by_cases e1 : y = z
     . rw [e1, zqn] at hy; cases hy
     . rw [zhs _ _ e1] at hy
       obtain ⟨x', hx', hxk⟩ := hex y u hy
       refine ⟨x', ?_, hxk⟩
       rw [hsub]
       obtain ⟨i, hi⟩ := List.mem_iff_getElem?.1 hx'
       refine List.mem_eraseIdx_iff_getElem?.2 ⟨i, fun e2 => ?_, hi⟩
       rw [e2, h2] at hi
       obtain rfl : x = x' := by simpa using hi
       rw [h3] at hxk
       cases hxk
       exact e1 rfl
   . rw [hsub]
     exact hd.sublist (List.eraseIdx_sublist _ _)
end
def zgi (w : World) (b n : Nat) (f : Int -> Option Value) : Prop := zc7 w b n f /\ ∃ es clock, w.heap[b]? = some (.map es clock) /\ es.size = n
theorem zgi.made (w : World) : zgi (w.alloc (.map #[] 0)) w.heap.size 0 (fun _ => none) := ⟨zc7.made w, #[], 0, (MapKept.heap_alloc w _).1, rfl⟩
theorem zgi.kept {w w' : World} {b n : Nat} {f : Int -> Option Value} (h : zgi w b n f) (hk : w'.heap[b]? = w.heap[b]?) : zgi w' b n f := by
 obtain ⟨h1, es, clock, hb, r⟩ := h
 exact ⟨h1.kept hk, es, clock, hk.trans hb, r⟩
theorem zgi.lt {w : World} {b n : Nat} {f : Int -> Option Value} (h : zgi w b n f) : b < w.heap.size := h.1.lt
theorem zgi.below {w w' : World} {b n : Nat} {f : Int -> Option Value} (h : zgi w b n f) (hk : Below w.heap.size w w') : zgi w' b n f := h.kept (hk.block b h.lt)
theorem zgi.cong {w : World} {b n n' : Nat} {f f' : Int -> Option Value} (h : zgi w b n f) (hn : n' = n) (hf : ∀ z, f' z = f z) : zgi w b n' f' := by
 subst hn
 exact ⟨h.1.cong (Nat.le_refl _) hf, h.2⟩
section
variable {P : Program} {w : World} {k t e : TypeId} {b n : Nat} {f : Int -> Option Value}
theorem zgi.len (ht : P.underlying t = some (.map k e)) (h : zgi w b n f) (ty : TypeId) : (Builtin.len_ #[t] ty #[.map (some b)]).run P w = .ok (.int .i64 n) w := by
 obtain ⟨_, es, clock, hb, rfl⟩ := h
 simp [Builtin.len_, run_underlying ht, MapKept.run_getObj_map hb, goInt, Result.andThen]
theorem zgi.store (hk : P.underlying k = some (.int .i64)) (ht : P.underlying t = some (.map k e)) (h : zgi w b n f) {z : Int} (hz : (Lit.int .i64 z).wf = true) (hf : f z = none) (v : Value) :
   ∃ w', (Instr.mapUpdate t (.map (some b)) (.int .i64 z) v).run P w = .ok () w' /\ zgi w' b (n + 1) (zow f z v) /\ w.grownBy w' (some b) := by
 obtain ⟨h0, es0, clock0, hb0, hn0⟩ := h
 obtain ⟨w', h1, h2, h3⟩ := zc7.store hk ht h0 hz hf v
 refine ⟨w', h1, ⟨h2, ?_⟩, h3⟩
 obtain ⟨es, clock, hb, hs, he, hex, hd⟩ := h0
 rw [hb] at hb0
 simp only [Option.some.injEq, Obj.map.injEq] at hb0
 obtain ⟨rfl, rfl⟩ := hb0
 have K := int_keyed hk
 rcases zc7.find (w := w) hk he hz with ⟨g1, g2⟩ | ⟨j, x, _, _, _, h4⟩
 . have e : (Instr.mapUpdate t (.map (some b)) (.int .i64 z) v).run P w = .ok () (setBlock w b (.map (es.push ⟨.int .i64 z, v, clock⟩) (clock + 1))) := by
     simp [Instr.mapUpdate, run_underlying ht, MapKept.run_getObj_map hb, K.check w false (keyOf_int_mk hk hz), g1, MapKept.run_setObj_map _ hb, Result.andThen, setBlock]
   rw [e] at h1
   simp only [Result.ok.injEq, true_and] at h1
   rw [<- h1]
   exact ⟨_, _, heap_setBlock_same hb _, by simp; omega⟩
 . rw [hf] at h4; cases h4
end
section
variable {P : Program} {w : World} {k t e : TypeId} {b n : Nat} {f : Int -> Option Value}
theorem zc7.over (hk : P.underlying k = some (.int .i64)) (ht : P.underlying t = some (.map k e)) (h : zc7 w b n f) {z : Int} (hz : (Lit.int .i64 z).wf = true) {v0 : Value} (hf : f z = some v0) (v : Value) :
   ∃ w', (Instr.mapUpdate t (.map (some b)) (.int .i64 z) v).run P w = .ok () w' /\ zc7 w' b n (zow f z v) /\ w.grownBy w' (some b) := by
 obtain ⟨es, clock, hb, hs, he, hex, hd⟩ := h
 have K := int_keyed hk
 rcases zc7.find (w := w) hk he hz with ⟨_, h2⟩ | ⟨j, x, h1, h2, h3, h4⟩
 . obtain ⟨x, hx, hxk⟩ := hex z v0 hf
   exact absurd hxk (h2 x hx)
 . have hjs : es[j]? = some x := by rw [<- Array.getElem?_toList]; exact h2
   have hst := K.stays w (keyOf_int_mk hk hz)
   have hget : ∀ i, (es.modify j fun e => { e with key := .int .i64 z, val := v }).toList[i]? = if j = i then (es.toList[i]?).map (fun e => { e with key := .int .i64 z, val := v }) else es.toList[i]? := fun i => by
     rw [Array.getElem?_toList, Array.getElem?_modify, Array.getElem?_toList]
   refine ⟨setBlock w b (.map (es.modify j fun e => { e with key := .int .i64 z, val := v }) clock), ?_, ⟨_, _, heap_setBlock_same hb _, by simp; omega, ?_, ?_, ?_⟩, ⟨rfl, rfl, rfl, by simp [setBlock], fun i _ hi => heap_setBlock_other hb _ (fun e => hi (by rw [e]))⟩⟩
   . simp [Instr.mapUpdate, run_underlying ht, MapKept.run_getObj_map hb, K.check w false (keyOf_int_mk hk hz), h1, hjs, h3, hst, MapKept.run_setObj_map _ hb, Result.andThen, setBlock]
   . intro y hy
     obtain ⟨i, hi⟩ := List.mem_iff_getElem?.1 hy
     rw [hget i] at hi
     by_cases e1 : j = i
     . subst e1
       rw [if_pos rfl, h2] at hi
       simp only [Option.map_some, Option.some.injEq] at hi
       subst hi
       exact ⟨z, rfl, hz, zlj _ _ _⟩
     . rw [if_neg e1] at hi
       obtain ⟨q, hq, hw, hfq⟩ := he y (List.mem_of_getElem? hi)
       refine ⟨q, hq, hw, ?_⟩
       rw [zfi _ _ _ (fun e2 => ?_), hfq]
       subst e2
       obtain ⟨hjl, hje⟩ := List.getElem?_eq_some_iff.1 h2
       obtain ⟨hil, hie⟩ := List.getElem?_eq_some_iff.1 hi
       have hpw := List.pairwise_iff_getElem.1 hd
       rcases Nat.lt_or_ge i j with hl | hl
       . have := hpw i j hil hjl hl
         rw [hie, hje, hq, h3] at this
         exact this rfl
       . have := hpw j i hjl hil (by omega)
         rw [hie, hje, hq, h3] at this
         exact this rfl
   . intro y u hy
     by_cases e1 : y = z
     . subst e1
       refine ⟨{ x with key := .int .i64 y, val := v }, List.mem_iff_getElem?.2 ⟨j, ?_⟩, rfl⟩
       rw [hget j, if_pos rfl, h2]
       rfl
     . rw [zfi _ _ _ e1] at hy
       obtain ⟨q, hq, hqk⟩ := hex y u hy
       obtain ⟨i, hi⟩ := List.mem_iff_getElem?.1 hq
       refine ⟨q, List.mem_iff_getElem?.2 ⟨i, ?_⟩, hqk⟩
       rw [hget i, if_neg (fun e2 => ?_)]
       . exact hi
       . subst e2
         rw [h2] at hi
         simp only [Option.some.injEq] at hi
         subst hi
         rw [h3] at hqk
         cases hqk
         exact e1 rfl
   . rw [List.pairwise_iff_getElem]
     intro i i' hi hi' hlt
     have key : ∀ (m : Nat) (hm : m < (es.modify j fun e => { e with key := .int .i64 z, val := v }).toList.length), ∃ q, es.toList[m]? = some q /\ ((es.modify j fun e => { e with key := .int .i64 z, val := v }).toList[m]).key = q.key := fun m hm => by
       have h0 := hget m
       rw [List.getElem?_eq_getElem hm] at h0
       by_cases e1 : j = m
       . subst e1
         rw [if_pos rfl, h2] at h0
         simp only [Option.map_some, Option.some.injEq] at h0
         exact ⟨x, h2, by rw [h0, h3]⟩
       . rw [if_neg e1] at h0
         exact ⟨_, h0.symm, rfl⟩
     obtain ⟨q, hq, eq1⟩ := key i hi
     obtain ⟨q', hq', eq2⟩ := key i' hi'
     rw [eq1, eq2]
     obtain ⟨g1, g2⟩ := List.getElem?_eq_some_iff.1 hq
     obtain ⟨g3, g4⟩ := List.getElem?_eq_some_iff.1 hq'
     have := List.pairwise_iff_getElem.1 hd i i' g1 g3 hlt
     rw [g2, g4] at this
     exact this
theorem zc7.set (hk : P.underlying k = some (.int .i64)) (ht : P.underlying t = some (.map k e)) (h : zc7 w b n f) {z : Int} (hz : (Lit.int .i64 z).wf = true) (v : Value) :
   ∃ w', (Instr.mapUpdate t (.map (some b)) (.int .i64 z) v).run P w = .ok () w' /\ zc7 w' b (n + 1) (zow f z v) /\ w.grownBy w' (some b) := by
 cases hf : f z with
 | none => exact zc7.store hk ht h hz hf v
 | some v0 =>
   obtain ⟨w', h1, h2, h3⟩ := zc7.over hk ht h hz hf v
   exact ⟨w', h1, h2.cong (by omega) (fun _ => rfl), h3⟩
end
def ze2 (w : World) (B : Nat) (e : TypeId) (v : Value) (xs : List Value) : Prop :=
 (v = .slice none 0 0 /\ xs = []) \/ ∃ g off cap cur, v = .slice (some ⟨g, off, none⟩) xs.length cap /\ B <= g /\ w.heap[g]? = some (.cells cur e (0, 0)) /\ xs.length <= cap /\ cap <= maxLen /\ off + cap <= cur.size /\ (cur.toList.drop off).take xs.length = xs
theorem z5e (w : World) (B : Nat) (e : TypeId) : ze2 w B e (.slice none 0 0) [] := Or.inl ⟨rfl, rfl⟩
theorem ze2.lt {w : World} {B : Nat} {e : TypeId} {v : Value} {xs : List Value} (h : ze2 w B e v xs) : ∀ k, v.ownBlock = some k -> B <= k /\ k < w.heap.size := by
 intro k hk
 rcases h with ⟨rfl, _⟩ | ⟨g, off, cap, cur, rfl, hb, hg, _⟩
 . simp [Value.ownBlock] at hk
 . simp [Value.ownBlock] at hk
   subst hk
   exact ⟨hb, (Array.getElem?_eq_some_iff.1 hg).1⟩
theorem ze2.kept {w w' : World} {B : Nat} {e : TypeId} {v : Value} {xs : List Value} (h : ze2 w B e v xs) (hk : ∀ g, v.ownBlock = some g -> w'.heap[g]? = w.heap[g]?) : ze2 w' B e v xs := by
 rcases h with h | ⟨g, off, cap, cur, rfl, hb, hg, h3⟩
 . exact Or.inl h
 . exact Or.inr ⟨g, off, cap, cur, rfl, hb, (hk g rfl).trans hg, h3⟩
theorem ze2.below {w w' : World} {B : Nat} {e : TypeId} {v : Value} {xs : List Value} (h : ze2 w B e v xs) (hb : Below w.heap.size w w') : ze2 w' B e v xs := h.kept (fun g hg => hb.block g (h.lt g hg).2)
theorem ze2.form {w : World} {B : Nat} {e : TypeId} {v : Value} {xs : List Value} (h : ze2 w B e v xs) : ∃ a cap, v = .slice a xs.length cap /\ xs.length <= cap := by
 rcases h with ⟨rfl, rfl⟩ | ⟨g, off, cap, cur, rfl, _, _, h3, _⟩
 . exact ⟨none, 0, rfl, Nat.le_refl _⟩
 . exact ⟨_, cap, rfl, h3⟩
theorem ze2.front {w : World} {B : Nat} {e : TypeId} {v : Value} {x : Value} {xs : List Value} (h : ze2 w B e v (x :: xs)) :
   ∃ g off cap, v = .slice (some ⟨g, off, none⟩) (xs.length + 1) cap /\ g < w.heap.size /\ xs.length + 1 <= cap /\ cap <= maxLen /\ w.cell? ⟨g, off, none⟩ = some x /\
     ze2 w B e (.slice (if cap = 1 then some ⟨g, off, none⟩ else some ⟨g, off + 1, none⟩) xs.length (cap - 1)) xs := by
 rcases h with ⟨_, h⟩ | ⟨g, off, cap, cur, rfl, hb, hg, hle, hmx, hsz, htk⟩
 . cases h
 . simp only [List.length_cons] at hle htk |-
   have hcell : ∀ j, j <= xs.length -> cur.toList[off + j]? = (x :: xs)[j]? := fun j hj => by
     have := congrArg (fun (l : List Value) => l[j]?) htk
     simpa [List.getElem?_take, show j < xs.length + 1 by omega, List.getElem?_drop] using this
   refine ⟨g, off, cap, rfl, (Array.getElem?_eq_some_iff.1 hg).1, hle, hmx, ?_, ?_⟩
   . have h0 := hcell 0 (by omega)
     simp only [Nat.add_zero, List.getElem?_cons_zero, Array.getElem?_toList] at h0
     simp [World.cell?, hg, h0]
   . by_cases h1 : cap = 1
     . rw [if_pos h1]
       have hx : xs = [] := List.eq_nil_of_length_eq_zero (by omega)
       subst hx
       exact Or.inr ⟨g, off, cap - 1, cur, rfl, hb, hg, by simp, by omega, by omega, by simp⟩
     . rw [if_neg h1]
       refine Or.inr ⟨g, off + 1, cap - 1, cur, rfl, hb, hg, by omega, by omega, by omega, ?_⟩
       refine List.ext_getElem? fun j => ?_
       rw [List.getElem?_take]
       by_cases hj : j < xs.length
       . rw [if_pos hj, List.getElem?_drop]
         have := hcell (j + 1) (by omega)
         simp only [List.getElem?_cons_succ] at this
         rw [<- this]
         congr 1
         omega
       . rw [if_neg hj]
         exact (List.getElem?_eq_none (by omega)).symm
theorem zyv {w : World} {g off cap : Nat} {e : TypeId} {cur : Array Value} {xs : List Value} (hg : w.heap[g]? = some (.cells cur e (0, 0))) (htk : (cur.toList.drop off).take xs.length = xs) : ∀ j u, xs[j]? = some u -> w.cell? ((⟨g, off, none⟩ : Addr).add j) = some u := fun j u hu => by
 have e1 : (⟨g, off, none⟩ : Addr).add j = ⟨g, off + j, none⟩ := by unfold Addr.add; split <;> simp_all
 have hj : j < xs.length := (List.getElem?_eq_some_iff.1 hu).1
 have := congrArg (fun (l : List Value) => l[j]?) htk
 simp only [List.getElem?_take, if_pos hj, List.getElem?_drop, Array.getElem?_toList] at this
 rw [e1]
 simp [World.cell?, hg, this, hu]
section
variable {P : Program} (w : World)
theorem ziy (t ty e : TypeId) (i : TypeInfo) (ht : P.underlying t = some (.slice e)) (hi : P.info? e = some i) (hs : i.size = 1)
   (g off sLen sCap : Nat) (cur : Array Value) (hg : w.heap[g]? = some (.cells cur e (0, 0)))
   (a : Addr) (m c : Nat) (news : List Value) (hl : news.length = m) (hnews : ∀ j u, news[j]? = some u -> w.cell? (a.add j) = some u) (h1 : ∀ u ∈ news, u.oneCell' = true)
   (hroom : sLen + m <= sCap) (hfit : off + sLen + news.length <= cur.size) :
   (Builtin.append_ #[t, t] ty #[.slice (some ⟨g, off, none⟩) sLen sCap, .slice (some a) m c]).run P w =
     .ok (.slice (some ⟨g, off, none⟩) (sLen + m) sCap) (w.setRow g (cur.toList.take (off + sLen) ++ news ++ cur.toList.drop (off + sLen + news.length)).toArray) := by
 have hf := run_firstCells_some (P := P) w i.size m a m c news (by rw [hl, hs, Nat.mul_one]) hnews
 have hst := run_storeCells_at P g (off + sLen) e news 0 cur w hg (by simpa using hfit) h1
 simp only [Nat.add_zero] at hst
 have hadd : (⟨g, off, none⟩ : Addr).add sLen = ⟨g, off + sLen, none⟩ := by unfold Addr.add; split <;> simp_all
 rw [hs] at hf
 simp [Builtin.append_, run_underlying ht, sizeOf, typeInfo, hi, hs, Builtin.lenOf, hroom, hf, hadd, hst]
theorem zqd (B : Nat) (t ty e : TypeId) (i : TypeInfo) (z : Value) (bytes : Nat) (ht : P.underlying t = some (.slice e)) (hi : P.info? e = some i) (hz : i.zero = some z)
   (hs : i.size = 1) (hby : i.bytes = bytes) (hzs : z.cells.size = 1) (v : Value) (xs : List Value) (hq : ze2 w B e v xs)
   (a : Addr) (c : Nat) (u : Value) (hu : w.cell? a = some u) (h1 : u.oneCell' = true) (h63 : xs.length + 1 <= 1000000000) (hbytes : (xs.length + 1) * bytes <= 140737488355328) (hbase : B <= w.heap.size) :
   ∃ v' w', (Builtin.append_ #[t, t] ty #[v, .slice (some a) 1 c]).run P w = .ok v' w' /\ ze2 w' B e v' (xs ++ [u]) /\ w.grownBy w' v.ownBlock /\ (v'.ownBlock = v.ownBlock \/ v'.ownBlock = some w.heap.size) /\ (∃ k o cp, v' = .slice (some ⟨k, o, none⟩) (xs.length + 1) cp) := by
 subst hby
 have hnews : ∀ j y, ([u] : List Value)[j]? = some y -> w.cell? (a.add j) = some y := fun j y hj => by
   cases j with
   | zero =>
     simp only [List.getElem?_cons_zero, Option.some.injEq] at hj
     subst hj
     rw [show a.add 0 = a by unfold Addr.add; split <;> simp_all]
     exact hu
   | succ j => simp at hj
 have grown : ∀ (old : Nat), old < xs.length + 1 -> ∀ (row : Option Nat),
     ze2 (w.drew.alloc (.cells (xs.toArray ++ [u].toArray ++ Builtin.zeroCells z.cells (grownCap w (xs.length + 1) old e - (xs.length + 1))) e)) B e
       (.slice (some ⟨w.heap.size, 0, none⟩) (xs.length + 1) (grownCap w (xs.length + 1) old e)) (xs ++ [u]) /\
     w.grownBy (w.drew.alloc (.cells (xs.toArray ++ [u].toArray ++ Builtin.zeroCells z.cells (grownCap w (xs.length + 1) old e - (xs.length + 1))) e)) row := by
   intro old ho row
   have hge := grownCap_ge w (xs.length + 1) old e
   have hcm : grownCap w (xs.length + 1) old e <= maxLen := grownCap_le_maxLen w (xs.length + 1) old e (by unfold maxLen; omega)
   refine ⟨.inr ⟨w.heap.size, 0, _, _, by simp, hbase, heap_alloc_new w.drew _, by simp; exact hge, hcm, ?_, ?_⟩, ⟨rfl, rfl, rfl, by simp, fun k hk _ => Below.heap_alloc w.drew _ k hk⟩⟩
   . simp only [Array.size_append, List.size_toArray, size_zeroCells, hzs, List.length_cons, List.length_nil]
     omega
   . simp only [Array.toList_append, List.append_assoc, List.drop_zero]
     rw [<- List.append_assoc]
     exact List.take_left
 rcases hq with ⟨rfl, rfl⟩ | ⟨g, off, cap, cur, rfl, hbg, hg, hnc, hcm, hcs, htake⟩
 . have hr := run_append_nil (P := P) w t ty e i z ht hi hz a 1 c [u] (by simp [hs]) hnews (by omega) (by omega) (by simpa using Nat.le_trans hbytes (by omega))
   have hgr := grown 0 (by simp) (Value.ownBlock (.slice none 0 0))
   simp only [List.length_nil, Nat.zero_add, List.nil_append, Array.empty_append] at hgr |-
   exact ⟨_, _, hr, hgr.1, hgr.2, Or.inr rfl, _, _, _, rfl⟩
 . by_cases hroom : xs.length + 1 <= cap
   . have hfit : off + xs.length + [u].length <= cur.size := by simp; omega
     have hr := ziy (P := P) w t ty e i ht hi hs g off xs.length cap cur hg a 1 c [u] rfl hnews (by intro y hy; rw [List.mem_singleton.1 hy]; exact h1) hroom hfit
     refine ⟨_, _, hr, .inr ⟨g, off, cap, _, by simp, hbg, setRow_heap w g cur _ e _ hg, by simpa using hroom, hcm, ?_, ?_⟩, ⟨rfl, rfl, rfl, by simp, fun k _ hk => setRow_other w g k _ (fun e => hk (by simp [Value.ownBlock, e]))⟩, Or.inl rfl, _, _, _, rfl⟩
     . simp only [List.size_toArray, List.length_append, List.length_take, List.length_drop, Array.length_toList, List.length_cons, List.length_nil]
       omega
     . have hlen : (cur.toList.take (off + xs.length)).length = off + xs.length := by simp; omega
       have e1 : (cur.toList.take (off + xs.length)).drop off = xs := by
         rw [List.drop_take]
         rw [show off + xs.length - off = xs.length by omega]
         exact htake
       rw [List.append_assoc, List.drop_append_of_le_length (by rw [hlen]; omega), e1, <- List.append_assoc]
       exact List.take_left
   . have hr := run_append_grow (P := P) w t ty e i z ht hi hz ⟨g, off, none⟩ xs.length cap xs (by rw [hs, Nat.mul_one]) (zyv (cap := cap) hg htake) a 1 c [u] (by simp [hs]) hnews (by omega) (by omega) (growslice_fits (by omega) hbytes)
     have hgr := grown cap (by omega) (Value.ownBlock (.slice (some ⟨g, off, none⟩) xs.length cap))
     exact ⟨_, _, hr, hgr.1, hgr.2, Or.inr rfl, _, _, _, rfl⟩
end
theorem zek {P : Program} {W : World} {t e : TypeId} {bytes : Nat} (T : zld P t e 1 bytes) {ops : Array Oper} {rest : List Oper} {o : Oper} {a : Act} {Q : Exit -> Act -> World -> Prop} (hgd : o.guard = none) (s x : Operand)
   (ho : o.op = .call { callee := .builtin .append, args := #[s, x], argTypes := #[t, t] }) (B : Nat) (v : Value) (xs : List Value) (hs : a.eval s = v) (hq : ze2 W B e v xs)
   (ad : Addr) (c : Nat) (u : Value) (hx : a.eval x = .slice (some ad) 1 c) (hu : W.cell? ad = some u) (h1 : u.oneCell' = true) (hn : xs.length + 1 <= 1000000000) (hb : (xs.length + 1) * bytes <= 140737488355328) (hB : B <= W.heap.size)
   (h : ∀ v' w', ze2 w' B e v' (xs ++ [u]) -> W.grownBy w' v.ownBlock -> (v'.ownBlock = v.ownBlock \/ v'.ownBlock = some W.heap.size) -> wpList P ops Q rest (a.put o.dst v') w') :
   wpList P ops Q (o :: rest) a W := by
 obtain ⟨i, z, hi, hz, hsz, hby, hzs⟩ := T.info
 obtain ⟨v', w', hrun, h2, h3, h4, _⟩ := zqd (P := P) W B t o.type e i z bytes T.slice hi hz hsz hby hzs v xs hq ad c u hu h1 hn hb hB
 refine wpList_plain hgd fun K hK => ?_
 unfold Oper.wp
 simp [execOp, ho, resolve, invoke, builtin, hs, hx, hrun, Result.andThen]
 exact hK _ _ (h v' w' h2 h3 h4)
end Go.Proofs.YtbnkckjdgpiggaaGreatDoor
