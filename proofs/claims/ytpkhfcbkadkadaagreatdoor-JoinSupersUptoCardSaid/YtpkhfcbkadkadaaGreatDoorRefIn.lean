/-
  The walk of the reference's In; a drawn index.
-/
import Derived.Test.YtpkhfcbkadkadaaGreatDoorWld
namespace Go.Proofs.YtpkhfcbkadkadaaGreatDoor
set_option linter.unusedVariables false
set_option linter.unusedSimpArgs false
open Go.RowKit Go.Shelf Go.Lib

theorem turn_w (a : Int) (n : Nat) (h0 : 0 < n) (h1 : n ≤ 9223372036854775807) : ∃ k : Nat, k < n ∧ wrap64 ((IntKind.u64.wrap a).tmod ↑n) = (k : Int) := by
  have hw : 0 ≤ IntKind.u64.wrap a := by rw [IntKind.wrap_u64]; omega
  have h2 : (IntKind.u64.wrap a).tmod ↑n = (IntKind.u64.wrap a) % ↑n := Int.tmod_eq_emod_of_nonneg hw
  have h3 : 0 ≤ (IntKind.u64.wrap a) % (n : Int) := Int.emod_nonneg _ (by omega)
  have h4 : (IntKind.u64.wrap a) % (n : Int) < n := Int.emod_lt_of_pos _ (by omega)
  refine ⟨((IntKind.u64.wrap a) % (n : Int)).toNat, by omega, ?_⟩
  rw [h2, Int.toNat_of_nonneg h3]
  exact IntWalk.wrap64_in _ (by omega)

theorem turn_at (n : Int) (L : Nat) (h0 : 0 < L) (hL : L ≤ 1000000000) : ∃ k : Nat, k < L ∧ (IntKind.u64.wrap n).tmod (IntKind.u64.wrap (L : Int)) = (k : Int) := by
  have h1 : IntKind.u64.wrap (L : Int) = L := by rw [IntKind.wrap_u64]; omega
  have h2 : 0 ≤ IntKind.u64.wrap n := by rw [IntKind.wrap_u64]; omega
  rw [h1]
  refine ⟨((IntKind.u64.wrap n).tmod L).toNat, ?_, ?_⟩
  · have := Int.tmod_lt_of_pos (IntKind.u64.wrap n) (show (0 : Int) < L by omega)
    have h3 := Int.tmod_nonneg (L : Int) h2
    omega
  · have h3 := Int.tmod_nonneg (L : Int) h2
    omega

set_option maxRecDepth 100000 in
set_option maxHeartbeats 1000000 in
theorem ref_in (A : List Nm) (x : Nm) (a : Option Addr) (c : Nat) (w : World) (h : SRow w a c A) (hl : A.length ≤ 1000000) :
    Calls Tryz.prog 12 #[.slice a A.length c, .string ⟨⟨x⟩⟩] w fun e w' => e = .returned (.bool (A.contains x)) ∧ w = w' := by
  generalize hR : A.contains x = R
  have HR := Lib.hid hR
  have HS := Lib.hid h
  clear h hR
  go_enter Tryz.func12, Tryz.ntmps12
  go_wp2_with fail
  go_loopw [5] (fun i wr => ∃ k : Nat, k ≤ A.length ∧ i = .int .i64 k ∧ wr = w ∧ Hid (∀ y ∈ A.take k, (y == x) = false)) (fun i _ => A.length - (RowKit.intOf i).toNat)
  case atStart => exact ⟨0, by omega, rfl, rfl, Lib.hid (by simp)⟩
  case round =>
    obtain ⟨k, hk, rfl, rfl, HZ⟩ := hrel
    by_cases hlk : k < A.length
    · obtain ⟨t, ht⟩ : ∃ t, A[k]? = some t := ⟨_, List.getElem?_eq_getElem hlk⟩
      obtain ⟨b, off, rfl, _, c1⟩ := strs_cell HS.out ht
      have HT := Lib.hid ht
      clear ht
      cases he : t == x with
      | true =>
        have HE := Lib.hid (show R = true by rw [← HR.out, List.contains_iff_mem]; have := eq_of_beq he; rw [← this]; exact List.mem_of_getElem? HT.out)
        go_wp2_with fail
        go_ret
        exact ⟨by rw [HE.out]; rfl, rfl⟩
      | false =>
        have HZ2 := Lib.hid (take_all_succ (P := fun y => (y == x) = false) HZ.out HT.out he)
        go_wp2_with fail
        go_roundw
        case rel => exact ⟨k + 1, by omega, by go_num, trivial, HZ2⟩
        case measure => simp [RowKit.intOf]; omega
    · obtain rfl : k = A.length := by omega
      have HE := Lib.hid (show R = false by
        rw [← HR.out]
        have h1 := HZ.out
        rw [List.take_length] at h1
        cases hc : A.contains x with
        | false => rfl
        | true =>
          rw [List.contains_iff_mem] at hc
          have := h1 x hc
          simp at this)
      go_wp2_with fail
      go_ret
      exact ⟨by rw [HE.out]; rfl, rfl⟩
end Go.Proofs.YtpkhfcbkadkadaaGreatDoor
