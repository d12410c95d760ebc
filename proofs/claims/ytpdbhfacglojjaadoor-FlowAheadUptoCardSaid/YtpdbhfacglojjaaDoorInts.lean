/-
  The walk of coffeehousesame.Ints at two readings of one list.
-/
import Derived.Test.YtpdbhfacglojjaaDoorCode
import Derived.BigQuiet
import Derived.Deep.QuietTactic
namespace Go.Proofs.YtpdbhfacglojjaaDoor
set_option linter.unusedVariables false
set_option linter.unusedSimpArgs false
open Go.RowKit Go.Shelf Go.Lib

set_option maxRecDepth 100000 in
set_option maxHeartbeats 1000000 in
theorem ints_same (A : List Int) (a a' : Option Addr) (c c' : Nat) (w : World) (h : ValsAt w a c (A.map (.int .i64))) (h' : ValsAt w a' c' (A.map (.int .i64))) (hl : A.length ≤ 1000000) :
    Calls Tryd.prog 18 #[.slice a A.length c, .slice a' A.length c'] w fun e w' => e = .returned (.bool true) ∧ Below w.heap.size w w' := by
  have HR := Lib.hid h
  have HR' := Lib.hid h'
  clear h h'
  go_enter Tryd.func18, Tryd.ntmps18
  go_wp2_with fail
  go_loopw [5] (fun i wr => ∃ k : Nat, k ≤ A.length ∧ i = .int .i64 k ∧ Below w.heap.size w wr) (fun i _ => A.length - (RowKit.intOf i).toNat)
  case atStart => exact ⟨0, by omega, rfl, Below.refl _ _⟩
  case round =>
    obtain ⟨k, hk, rfl, hwr⟩ := hrel
    by_cases hlk : k < A.length
    · obtain ⟨t, ht⟩ : ∃ t, A[k]? = some t := ⟨_, List.getElem?_eq_getElem hlk⟩
      have htm : (A.map (Value.int .i64))[k]? = some (.int .i64 t) := by rw [List.getElem?_map, ht]; rfl
      rcases HR.out.2 with h0 | ⟨b, off, rfl, hb, hc⟩
      · rw [List.map_eq_nil_iff] at h0; rw [h0] at hlk; simp at hlk
      rcases HR'.out.2 with h0 | ⟨b', off', rfl, hb', hc'⟩
      · rw [List.map_eq_nil_iff] at h0; rw [h0] at hlk; simp at hlk
      have c1 : wr.cell? ⟨b, off + k, none⟩ = some (.int .i64 t) := by rw [hwr.cell (p := ⟨b, off + k, none⟩) hb]; exact hc k _ htm
      have c2 : wr.cell? ⟨b', off' + k, none⟩ = some (.int .i64 t) := by rw [hwr.cell (p := ⟨b', off' + k, none⟩) hb']; exact hc' k _ htm
      have HW := Lib.hid hwr
      have i0 : (0 : Int) ≤ (k : Int) := by omega
      have i1 : (k : Int) < (A.length : Int) := by omega
      clear hc hc' hb hb' ht htm hwr HR HR'
      go_wp2_with fail
      go_quiet (fail)
      go_wp2_with fail
      go_roundw
      case rel => exact ⟨k + 1, by omega, by go_num, HW.out.trans ⟨rfl, rfl, rfl, Nat.le_refl _, fun _ _ => rfl⟩⟩
      case measure => simp [RowKit.intOf]; omega
    · obtain rfl : k = A.length := by omega
      have HW := Lib.hid hwr
      clear hwr
      go_wp2_with fail
      go_ret
      exact ⟨rfl, HW.out⟩
end Go.Proofs.YtpdbhfacglojjaaDoor
