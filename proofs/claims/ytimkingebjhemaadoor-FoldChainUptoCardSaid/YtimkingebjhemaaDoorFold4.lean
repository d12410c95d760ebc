/-
  Parts of code as slices; the walks of slices.Clone of code, of slices.ContainsFunc of two ints over an empty map.
-/
import Derived.Test.YtimkingebjhemaaDoorFold3
import Derived.Test.YtimkingebjhemaaDoorStep
import Derived.Test.YtimkingebjhemaaDoorFlowCheck
import Derived.Test.YtimkingebjhemaaDoorIMap
import Derived.Lib.BufferMore
namespace Go.Proofs.YtimkingebjhemaaDoor
set_option linter.unusedVariables false
set_option linter.unusedSimpArgs false
open Go.RowKit Go.Shelf Go.Lib

theorem CodeAt.drop {w : World} {b off cap : Nat} {l : List InsR} (h : CodeAt w (some ⟨b, off, none⟩) cap l) (i : Nat) (hi : i < l.length) : CodeAt w (some ⟨b, off + i * 6, none⟩) (cap - i) (l.drop i) := by
  obtain ⟨h1, h2 | ⟨b', off', hb, hlt, hc⟩⟩ := h
  · have : l = [] := by simpa using h2
    subst this; simp at hi
  · simp only [Option.some.injEq, Addr.mk.injEq, and_true] at hb
    obtain ⟨rfl, rfl⟩ := hb
    simp only [List.length_map] at h1
    refine ⟨by simp; omega, Or.inr ⟨b, off + i * 6, rfl, hlt, fun k cs hk j u hu => ?_⟩⟩
    rw [List.map_drop, List.getElem?_drop] at hk
    have := hc (i + k) cs hk j u hu
    rw [show off + i * 6 + k * 6 + j = off + (i + k) * 6 + j by omega]
    exact this

theorem code_src {w : World} {b off cap : Nat} {l : List InsR} (h : CodeAt w (some ⟨b, off, none⟩) cap l) : SrcRow w 6 (.slice (some ⟨b, off, none⟩) l.length cap) l.length (l.map insCells).flatten := by
  have hL : ∀ c ∈ l.map insCells, c.length = 6 := by intro c hc; obtain ⟨x, _, rfl⟩ := List.mem_map.1 hc; rfl
  refine ⟨?_, ?_, Or.inr ⟨⟨b, off, none⟩, cap, rfl, fun j u hj => ?_⟩⟩
  · clear h hL
    induction l with
    | nil => rfl
    | cons x l ih =>
      simp only [List.map_cons, List.flatten_cons, List.length_append, ih, List.length_cons]
      simp [insCells]; omega
  · intro u hu
    obtain ⟨c, hc, huc⟩ := List.mem_flatten.1 hu
    obtain ⟨x, _, rfl⟩ := List.mem_map.1 hc
    exact insCells_one x u huc
  · obtain ⟨cs, h1, h2⟩ := flat_at _ 6 j u (by decide) hL hj
    obtain ⟨_, h3 | ⟨b', off', hb, _, hc⟩⟩ := h
    · rw [h3] at h1; simp at h1
    · simp only [Option.some.injEq, Addr.mk.injEq, and_true] at hb
      obtain ⟨rfl, rfl⟩ := hb
      have := hc _ cs h1 _ u h2
      have e : (⟨b, off, none⟩ : Addr).add j = ⟨b, off + j, none⟩ := by unfold Addr.add; split <;> simp_all
      rw [e, show off + j = off + j / 6 * 6 + j % 6 by omega]
      exact this

theorem code_tail {b off n cap i : Nat} (h1 : i < n) (h2 : n ≤ cap) (W : World) : (Instr.slice 37 (.slice (some ⟨b, off, none⟩) n cap) (some (.int .i64 (i : Int))) none none).run Tryd.prog W = .ok (.slice (some ⟨b, off + i * 6, none⟩) (n - i) (cap - i)) W := by
  have ht' : Tryd.prog.underlying 37 = some (.slice (Tryd.prog.elem 37)) := by simp [Program.elem, Tryd.underlying37]
  rw [run_slice_l W _ _ _ _ ht' .i64 i (by omega) (by omega)]
  have hne : ¬ cap = i := by omega
  simp [Result.andThen, sliced, hne, go_sem]
theorem code_none {b off n cap : Nat} (h : 0 < cap) (W : World) : (Instr.slice 37 (.slice (some ⟨b, off, none⟩) n cap) none (some (.int .i64 0)) none).run Tryd.prog W = .ok (.slice (some ⟨b, off, none⟩) 0 cap) W := by
  have ht' : Tryd.prog.underlying 37 = some (.slice (Tryd.prog.elem 37)) := by simp [Program.elem, Tryd.underlying37]
  rw [run_slice_h W _ _ _ _ ht' .i64 0 (by omega) (by omega)]
  simp [Result.andThen, sliced, go_sem]

set_option maxRecDepth 100000 in
set_option maxHeartbeats 1000000 in
theorem clone_calls (l : List InsR) (b off cap : Nat) (w : World) (h : SrcRow w 6 (.slice (some ⟨b, off, none⟩) l.length cap) l.length (l.map insCells).flatten) (hb : b < w.heap.size) (hl : l.length ≤ 1000) :
    Calls Tryd.prog 35 #[.slice (some ⟨b, off, none⟩) l.length cap] w fun e w' => ∃ v, e = .returned v ∧ w'.ownsRow w.heap.size 36 6 v l.length (l.map insCells).flatten ∧ Below w.heap.size w w' := by
  have hnil : ∀ W, (binOp .eql 37 (.slice (some ⟨b, off, none⟩) l.length cap) (.slice none 0 0)).run Tryd.prog W = .ok (.bool false) W := fun W => Lib.run_eql_slice_some_nil W _ _ _ Tryd.underlying37
  have HS := Lib.hid (fun o => h.moved (w' := w.alloc o) (fun k hk => by
    have : k = b := by simpa [Value.ownBlock] using hk.symm
    subst this
    exact ((Below.refl _ _).alloc (Nat.le_refl _) o).block k hb))
  clear h
  go_enter Tryd.func35, Tryd.ntmps35
  go_wp2_with (at_builtin; refine wpList_append_src rowIns rfl _ _ rfl w.heap.size _ 0 [] rfl ?c0 _ l.length (l.map insCells).flatten rfl (HS.out _) ?c2 ?c3 ?c4 ?_)
  case c0 => exact World.ownsRow_lit _ _ 0 (Nat.le_refl _) (by unfold maxLen; omega) rfl
  case c2 => omega
  case c3 => omega
  case c4 => simp
  intro v w2 ho hg
  go_wp2_with fail
  go_ret
  exact ⟨_, rfl, by simpa using ho, (bl_alloc (Below.refl _ _) _).trans ⟨hg.os, hg.tape, hg.output, hg.size, fun k hk => hg.block k (by simp; omega) (by simp [Value.ownBlock]; omega)⟩⟩

/-- the map of places that are jumped to, empty -/
def GoesAt (w : World) (c : Nat) : Prop := ∃ m, w.cell? ⟨c, 0, none⟩ = some (.map (some m)) ∧ c < w.heap.size ∧ IMap w m 0 (fun _ => none)
theorem GoesAt.below {w w' : World} {c : Nat} (h : GoesAt w c) (hb : Below w.heap.size w w') : GoesAt w' c := by
  obtain ⟨m, h1, h2, h3⟩ := h
  exact ⟨m, by rw [hb.cell (p := ⟨c, 0, none⟩) h2]; exact h1, Nat.lt_of_lt_of_le h2 hb.size, h3.below hb⟩

set_option maxRecDepth 100000 in
set_option maxHeartbeats 1000000 in
theorem goes_calls (z : Int) (hz : -9223372036854775808 ≤ z ∧ z ≤ 9223372036854775807) (c : Nat) (w : World) (h : GoesAt w c) :
    Calls Tryd.prog 34 #[.int .i64 z, .pointer (some ⟨c, 0, none⟩)] w fun e w' => e = .returned (.bool false) ∧ Below w.heap.size w w' := by
  obtain ⟨m, hc, hlt, hm⟩ := h
  have hwf : (Lit.int .i64 z).wf = true := by
    have h1 : IntKind.i64.min = -9223372036854775808 := by decide
    have h2 : IntKind.i64.max = 9223372036854775807 := by decide
    simp [Lit.wf, h1, h2]; omega
  have hl : (Instr.lookup 66 (.map (some m)) (.int .i64 z) true).run Tryd.prog w = .ok (.tuple #[.agg #[], .bool false]) w := by
    have := IMap.look_none (P := Tryd.prog) (w := w) Tryd.underlying3 Tryd.underlying66 hm hwf rfl (zv := .agg #[]) (by kernel_rfl) true
    simpa using this
  clear hm hwf hz
  go_enter Tryd.func34, Tryd.ntmps34
  go_wp2_with fail
  go_ret
  exact ⟨rfl, by repeat (first | exact Below.refl _ _ | refine bl_alloc ?_ _)⟩

set_option maxRecDepth 100000 in
set_option maxHeartbeats 1000000 in
theorem indexGoes (i j : Int) (hi : -9223372036854775808 ≤ i ∧ i ≤ 9223372036854775807) (hj : -9223372036854775808 ≤ j ∧ j ≤ 9223372036854775807) (g c : Nat) (w : World) (hg : g < w.heap.size) (h0 : w.cell? ⟨g, 0, none⟩ = some (.int .i64 i)) (h1 : w.cell? ⟨g, 1, none⟩ = some (.int .i64 j)) (h : GoesAt w c) :
    Calls Tryd.prog 65 #[.slice (some ⟨g, 0, none⟩) 2 2, .func (.func 34) #[] #[.pointer (some ⟨c, 0, none⟩)]] w fun e w' => e = .returned (.int .i64 (-1)) ∧ Below w.heap.size w w' := by
  have HG := Lib.hid h
  have HI := Lib.hid hi
  have HJ := Lib.hid hj
  clear h hi hj
  go_enter Tryd.func65, Tryd.ntmps65
  go_wp2_with fail
  refine wp_loop_rounds 3 ?_
  rw [rounds_succ]
  go_wp2_with fail
  refine (goes_calls i HI.out c _ HG.out).mono ?_
  rintro e w2 ⟨rfl, hb2⟩
  have h12 : w2.cell? ⟨g, 1, none⟩ = some (.int .i64 j) := by rw [hb2.cell (p := ⟨g, 1, none⟩) hg]; exact h1
  have HB2 := Lib.hid hb2
  clear hb2
  go_wp2_with fail
  rw [rounds_succ]
  go_wp2_with fail
  refine (goes_calls j HJ.out c _ (HG.out.below HB2.out)).mono ?_
  rintro e w3 ⟨rfl, hb3⟩
  have HB3 := Lib.hid (bl_trans HB2.out hb3)
  clear hb3
  go_wp2_with fail
  rw [rounds_succ]
  go_wp2_with fail
  go_ret
  exact ⟨rfl, HB3.out⟩

set_option maxRecDepth 100000 in
set_option maxHeartbeats 1000000 in
theorem containsGoes (i j : Int) (hi : -9223372036854775808 ≤ i ∧ i ≤ 9223372036854775807) (hj : -9223372036854775808 ≤ j ∧ j ≤ 9223372036854775807) (g c : Nat) (w : World) (hg : g < w.heap.size) (h0 : w.cell? ⟨g, 0, none⟩ = some (.int .i64 i)) (h1 : w.cell? ⟨g, 1, none⟩ = some (.int .i64 j)) (h : GoesAt w c) :
    Calls Tryd.prog 33 #[.slice (some ⟨g, 0, none⟩) 2 2, .func (.func 34) #[] #[.pointer (some ⟨c, 0, none⟩)]] w fun e w' => e = .returned (.bool false) ∧ Below w.heap.size w w' := by
  have HI := Lib.hid (indexGoes i j hi hj g c w hg h0 h1 h)
  clear hi hj h0 h1 h
  go_enter Tryd.func33, Tryd.ntmps33
  go_wp2_with fail
  refine HI.out.mono ?_
  rintro e w2 ⟨rfl, hb2⟩
  go_wp2_with fail
  go_ret
  exact ⟨rfl, hb2⟩
end Go.Proofs.YtimkingebjhemaaDoor
