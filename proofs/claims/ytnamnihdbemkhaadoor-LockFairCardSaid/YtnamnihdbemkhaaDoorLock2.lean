/-
  lock: Waiting; same.Ints.
-/
import Derived.Test.YtnamnihdbemkhaaDoorLock
import Derived.Carry
import Derived.BigQuiet
import Derived.Deep.QuietTactic
namespace Go.Proofs.YtnamnihdbemkhaaDoor
set_option linter.unusedVariables false
set_option linter.unusedSimpArgs false
open Go.RowKit Go.Shelf Go.Lib

/-- a slice of numbers, read -/
def NRow (w : World) (v : Value) (xs : List Int) : Prop :=
  ∃ a c, v = .slice a xs.length c ∧ (xs = [] ∨ ∃ g o, a = some ⟨g, o, none⟩ ∧ g < w.heap.size ∧ ∀ j x, xs[j]? = some x → w.cell? ⟨g, o + j, none⟩ = some (.int .i64 x))

theorem NRow.of_own {w : World} {B : Nat} {v : Value} {xs : List Int} (h : w.ownsRow B 3 1 v xs.length (xs.map (Value.int .i64))) : NRow w v xs := by
  rcases h.2 with ⟨rfl, h0⟩ | ⟨g, cap, cur, rfl, _, hg, hle, _, _, _⟩
  · exact ⟨none, 0, by rw [h0], Or.inl (List.eq_nil_of_length_eq_zero h0)⟩
  · refine ⟨_, cap, rfl, Or.inr ⟨g, 0, rfl, (Array.getElem?_eq_some_iff.1 hg).1, fun j x hx => ?_⟩⟩
    have := h.cells (g := g) rfl j (.int .i64 x) (by rw [List.getElem?_map, hx]; rfl)
    have e : (⟨g, 0, none⟩ : Addr).add j = ⟨g, j, none⟩ := by unfold Addr.add; split <;> simp_all
    rw [e] at this
    rw [Nat.zero_add]; exact this

set_option maxRecDepth 100000 in
theorem waiting_none {w : World} {L M1 M2 n1 : Nat} {f1 : Int → Option Value} (hL : LocksAt w L M1 M2) (h1 : IMap w M1 n1 f1) {what : Int} (b0 : 0 ≤ what) (b1 : what < 50) (hf1 : f1 what = none) :
    Calls Tryd.prog 21 #[.pointer (some ⟨L, 0, none⟩), .int .i64 what] w fun e w' => e = .returned (.slice none 0 0) ∧ w' = w := by
  have c1 : w.cell? ⟨L, 0, none⟩ = some (.map (some M1)) := by unfold LocksAt at hL; simp [World.cell?, hL]
  have hrun := h1.look_none (P := Tryd.prog) (k := 3) (t := 74) (e := 78) Tryd.underlying3 Tryd.underlying74 (wf_small b0 b1) hf1 (zero_ptr w) false
  simp only [Bool.false_eq_true, if_false] at hrun
  clear hL hf1 h1
  go_enter Tryd.func21, Tryd.ntmps21
  go_wp2_with fail
  go_ret
  exact ⟨rfl, rfl⟩

theorem clone_row {w : World} {v : Value} {xs : List Int} (h : NRow w v xs) (hl : xs.length ≤ 1000) :
    Calls Tryd.prog 39 #[v] w fun e w' => ∃ v', e = .returned v' ∧ w'.ownsRow w.heap.size 3 1 v' xs.length (xs.map (Value.int .i64)) ∧ Below w.heap.size w w' := by
  obtain ⟨a, c, rfl, rfl | ⟨g, o, rfl, _, hc⟩⟩ := h
  · cases a with
    | none =>
      refine (Tryd.slices_Clone_int_nil 0 c w).mono fun e w' ⟨h1, h2⟩ => ⟨_, h1, ?_, by rw [h2]; exact Below.refl _ _⟩
      exact World.ownsRow_nil _ _ _ _
    | some a => exact (Tryd.slices_Clone_int_zero a c w).mono fun e w' ⟨v', h1, h2, _, h3⟩ => ⟨v', h1, h2, h3⟩
  · refine (Tryd.slices_Clone_int g o xs.length c xs w (Nat.le_refl _) (by omega) (fun j hj => hc j _ (by rw [List.getD_eq_getElem?_getD, List.getElem?_eq_getElem hj]; rfl))).mono fun e w' ⟨v', h1, h2, _, h3⟩ => ⟨v', h1, by simpa using h2, h3⟩

set_option maxRecDepth 100000 in
theorem waiting_has {w : World} {L M1 M2 K n1 : Nat} {f1 : Int → Option Value} (hL : LocksAt w L M1 M2) (h1 : IMap w M1 n1 f1) {what who times : Int} (b0 : 0 ≤ what) (b1 : what < 50) (hf1 : f1 what = some (.pointer (some ⟨K, 0, none⟩)))
    {v : Value} (hK : LockAt w K who times v) {xs : List Int} (hx : NRow w v xs) (hl : xs.length ≤ 1000) :
    Calls Tryd.prog 21 #[.pointer (some ⟨L, 0, none⟩), .int .i64 what] w fun e w' => ∃ v', e = .returned v' ∧ w'.ownsRow w.heap.size 3 1 v' xs.length (xs.map (Value.int .i64)) ∧ Below w.heap.size w w' := by
  have c1 : w.cell? ⟨L, 0, none⟩ = some (.map (some M1)) := by unfold LocksAt at hL; simp [World.cell?, hL]
  have hrun := h1.look_some (P := Tryd.prog) (k := 3) (t := 74) (e := 78) Tryd.underlying3 Tryd.underlying74 (wf_small b0 b1) hf1 false
  simp only [Bool.false_eq_true, if_false] at hrun
  have d1 : w.cell? ⟨K, 2, none⟩ = some v := by unfold LockAt at hK; simp [World.cell?, hK]
  have HC := Lib.hid (clone_row hx hl)
  clear hL hf1 h1 hK hx
  go_enter Tryd.func21, Tryd.ntmps21
  go_wp2_with fail
  refine HC.out.mono ?_
  rintro e w1 ⟨v', rfl, ho, hb⟩
  have HO := Lib.hid ho
  have HB := Lib.hid hb
  clear ho hb
  go_wp2_with fail
  go_ret
  exact ⟨_, rfl, HO.out, HB.out⟩

set_option maxRecDepth 100000 in
set_option maxHeartbeats 1000000 in
theorem ints_same {w : World} {v v' : Value} {xs : List Int} (h : NRow w v xs) (h' : NRow w v' xs) (hl : xs.length ≤ 1000000) :
    Calls Tryd.prog 20 #[v, v'] w fun e w' => e = .returned (.bool true) ∧ Below w.heap.size w w' := by
  obtain ⟨a, c, rfl, h⟩ := h
  obtain ⟨a', c', rfl, h'⟩ := h'
  have HR := Lib.hid h
  have HR' := Lib.hid h'
  clear h h'
  go_enter Tryd.func20, Tryd.ntmps20
  go_wp2_with fail
  go_loopw [5] (fun i wr => ∃ k : Nat, k ≤ xs.length ∧ i = .int .i64 k ∧ Below w.heap.size w wr) (fun i _ => xs.length - (RowKit.intOf i).toNat)
  case atStart => exact ⟨0, by omega, rfl, Below.refl _ _⟩
  case round =>
    obtain ⟨k, hk, rfl, hwr⟩ := hrel
    by_cases hlk : k < xs.length
    · obtain ⟨t, ht⟩ : ∃ t, xs[k]? = some t := ⟨_, List.getElem?_eq_getElem hlk⟩
      rcases HR.out with h0 | ⟨b, off, rfl, hb, hc⟩
      · rw [h0] at hlk; simp at hlk
      rcases HR'.out with h0 | ⟨b', off', rfl, hb', hc'⟩
      · rw [h0] at hlk; simp at hlk
      have c1 : wr.cell? ⟨b, off + k, none⟩ = some (.int .i64 t) := by rw [hwr.cell (p := ⟨b, off + k, none⟩) hb]; exact hc k t ht
      have c2 : wr.cell? ⟨b', off' + k, none⟩ = some (.int .i64 t) := by rw [hwr.cell (p := ⟨b', off' + k, none⟩) hb']; exact hc' k t ht
      have HW := Lib.hid hwr
      have i0 : (0 : Int) ≤ (k : Int) := by omega
      have i1 : (k : Int) < (xs.length : Int) := by omega
      clear hc hc' hb hb' ht hwr HR HR'
      go_wp2_with fail
      go_quiet (fail)
      go_wp2_with fail
      go_roundw
      case rel => exact ⟨k + 1, by omega, by go_num, HW.out.trans ⟨rfl, rfl, rfl, Nat.le_refl _, fun _ _ => rfl⟩⟩
      case measure => simp [RowKit.intOf]; omega
    · obtain rfl : k = xs.length := by omega
      have HW := Lib.hid hwr
      clear hwr
      go_wp2_with fail
      go_ret
      exact ⟨rfl, HW.out⟩

set_option maxRecDepth 100000 in
theorem new_locks (w : World) : Calls Tryd.prog 18 #[] w fun e w' => e = .returned (.pointer (some ⟨w.heap.size + 2, 0, none⟩)) ∧ LocksAt w' (w.heap.size + 2) w.heap.size (w.heap.size + 1) ∧
    IMap w' w.heap.size 0 (fun _ => none) ∧ IMap w' (w.heap.size + 1) 0 (fun _ => none) ∧ Below w.heap.size w w' := by
  have m1 := run_makeMap (P := Tryd.prog) 74
  have m2 := run_makeMap (P := Tryd.prog) 75
  go_enter Tryd.func18, Tryd.ntmps18
  go_wp2_with fail
  go_ret
  refine ⟨rfl, ?_, ?_, ?_, ?_⟩
  · have e : w.heap.size + 2 = ((w.alloc (.map #[] 0)).alloc (.map #[] 0)).heap.size := by simp
    unfold LocksAt
    rw [e]
    exact heap_alloc_new _ _
  · exact ((IMap.made w).kept (Below.heap_alloc _ _ _ (by simp))).kept (Below.heap_alloc _ _ _ (by simp; omega))
  · exact (IMap.made (w.alloc (.map #[] 0))).kept (Below.heap_alloc _ _ _ (by simp)) |> fun h => by simpa using h
  · exact (((Below.refl _ _).alloc (by simp) _).alloc (by simp) _).alloc (by simp; omega) _
end Go.Proofs.YtnamnihdbemkhaaDoor
