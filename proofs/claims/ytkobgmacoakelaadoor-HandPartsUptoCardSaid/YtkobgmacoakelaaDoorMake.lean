/-
  The walk of desc.Make at right types, and at too many of them.
-/
import Derived.Test.YtkobgmacoakelaaDoorBase
namespace Go.Proofs.YtkobgmacoakelaaDoor
set_option linter.unusedVariables false
set_option linter.unusedSimpArgs false
open Go.RowKit Go.Shelf Go.Lib

theorem join_flat : ∀ (A : List (List UInt8)), Lib.join A [] = A.flatten
  | [] => rfl
  | [x] => by rw [join_one]; simp
  | x :: y :: r => by
    rw [join_cons]
    simp [joinTail]

theorem join_calls (A : List (List UInt8)) (a : Option Addr) (cap : Nat) (w : World) (h : SRow w a cap A) (hl : A.length ≤ 5) (hf : A.flatten.length ≤ 1000) :
    Calls Tryd.prog 44 #[.slice a A.length cap, .string ⟨#[]⟩] w fun e w' => e = .returned (.string ⟨⟨A.flatten⟩⟩) ∧ Below w.heap.size w w' := by
  obtain ⟨h1, rfl | ⟨b, off, rfl, hlt, hc⟩⟩ := h
  · exact (Tryd.strings_Join_none a cap ⟨#[]⟩ w).mono fun e w' ⟨h2, h3⟩ => ⟨by rw [h2]; rfl, by rw [h3]; exact Below.refl _ _⟩
  · have hm : (A.map (fun t => (⟨⟨t⟩⟩ : ByteArray))).map (·.data.toList) = A := by
      clear h1 hc hl hf
      induction A with
      | nil => rfl
      | cons x r ih => simp only [List.map_cons, ih]
    have h2 := Tryd.strings_Join b off cap (A.map fun t => ⟨⟨t⟩⟩) ⟨#[]⟩ w (fun j x hx => by
      rw [List.getElem?_map] at hx
      cases hj : A[j]? with
      | none => rw [hj] at hx; cases hx
      | some y =>
        rw [hj] at hx
        cases hx
        exact hc j y hj) hlt (by simp; omega) (by simpa using h1) (by rw [hm, join_flat]; omega)
    rw [hm, join_flat, List.length_map] at h2
    exact h2

theorem ret_make {a b : List UInt8} (h : a = b) : Ending.returned (.tuple #[.string ⟨⟨a⟩⟩, .nilIface]) = .returned (.tuple #[.string ⟨⟨b⟩⟩, .nilIface]) := by rw [h]

set_option maxRecDepth 100000 in
theorem make_full (a : Option Addr) (n cap : Nat) (g : ByteArray) (w : World) (h : 5 < n) :
    Calls Tryd.prog 29 #[.slice a n cap, .string g] w fun e w' => e = .returned (.tuple #[.string ⟨#[]⟩, errV 4]) ∧ w = w' := by
  go_enter Tryd.func29, Tryd.ntmps29
  go_wp2_with fail
  go_ret2
  exact ⟨rfl, rfl⟩

theorem flat_len : ∀ (A : List (List UInt8)), (∀ t ∈ A, TypeOk t) → A.flatten.length ≤ 25 * A.length
  | [], _ => by simp
  | t :: A, h => by
    have h1 := (type_len (h t (by simp))).2
    have h2 := flat_len A (fun x hx => h x (by simp [hx]))
    simp only [List.flatten_cons, List.length_append, List.length_cons]
    omega

set_option maxRecDepth 100000 in
set_option maxHeartbeats 1000000 in
theorem make_ok (A : List (List UInt8)) (a : Option Addr) (cap : Nat) (g : List UInt8) (w : World) (h : SRow w a cap A) (hl : A.length ≤ 5) (hA : ∀ t ∈ A, TypeOk t) (hg : GivesOk g) :
    Calls Tryd.prog 29 #[.slice a A.length cap, .string ⟨⟨g⟩⟩] w fun e w' => e = .returned (.tuple #[.string ⟨⟨40 :: (A.flatten ++ 41 :: g)⟩⟩, .nilIface]) ∧ Below w.heap.size w w' := by
  have hgl : g.length ≤ 25 := by
    rcases hg with rfl | hg
    · simp
    · exact (type_len hg).2
  have hfl := flat_len A hA
  have hfl2 : A.flatten.length ≤ 125 := by omega
  have HA := Lib.hid hA
  have HR := Lib.hid h
  have HG := Lib.hid hg
  clear hA h hg hfl
  obtain ⟨B, hB⟩ : ∃ B, B = w.heap.size := ⟨_, rfl⟩
  have HB := Lib.hid hB
  clear hB
  rcases HR.out.2 with h0 | ⟨b, off, ha, hlt, hc⟩
  · subst h0
    have hz : Calls Tryd.prog 44 #[.slice a 0 cap, .string ⟨#[]⟩] w fun e w' => e = .returned (.string ⟨#[]⟩) ∧ w' = w := Tryd.strings_Join_none a cap ⟨#[]⟩ w
    have hj : ∀ w, Calls Tryd.prog 44 #[.slice a 0 cap, .string ⟨#[]⟩] w fun e w' => e = .returned (.string ⟨⟨[]⟩⟩) ∧ w = w' := fun w => (Tryd.strings_Join_none a cap ⟨#[]⟩ w).mono fun e w' ⟨h1, h2⟩ => ⟨h1, h2.symm⟩
    have HJ := Lib.hid hj
    clear hz hj
    by_cases hV : g = [86]
    · subst hV
      go_enter Tryd.func29, Tryd.ntmps29
      go_wp2_with fail
      refine wp_loop_rounds 1 ?_
      rw [rounds_succ]
      go_wp2_with fail
      refine (HJ.out _).mono ?_
      rintro e w1 ⟨rfl, rfl⟩
      go_wp2_with fail
      go_ret2
      exact ⟨rfl, Below.refl _ _⟩
    · have hq : (g == [86]) = false := by rw [beq_eq_false_iff_ne]; exact hV
      have hg : TypeOk g := HG.out.resolve_left hV
      have HK := Lib.hid (fun w => check_ok g hg w)
      clear hg
      go_enter Tryd.func29, Tryd.ntmps29
      go_wp2_with fail
      refine wp_loop_rounds 1 ?_
      rw [rounds_succ]
      go_wp2_with fail
      refine (HK.out _).mono ?_
      rintro e w1 ⟨rfl, hb1⟩
      go_wp2_with fail
      refine (HJ.out _).mono ?_
      rintro e w1 ⟨rfl, rfl⟩
      go_wp2_with fail
      go_ret2
      exact ⟨ret_make (by simp), hb1⟩
  · subst ha
    have HC := Lib.hid hc
    have hlt' : b < B := by rw [HB.out]; exact hlt
    clear hc hlt
    go_enter Tryd.func29, Tryd.ntmps29
    go_wp2_with fail
    go_loopw [15] (fun i wr => ∃ k : Nat, k ≤ A.length ∧ i = .int .i64 k ∧ Below B w wr) (fun i _ => A.length - (RowKit.intOf i).toNat)
    case atStart => exact ⟨0, by omega, rfl, Below.refl _ _⟩
    case round =>
      obtain ⟨k, hk, rfl, hwr⟩ := hrel
      have HW := Lib.hid hwr
      clear hwr
      by_cases hlk : k < A.length
      · obtain ⟨t, ht⟩ : ∃ t, A[k]? = some t := ⟨_, List.getElem?_eq_getElem hlk⟩
        have hcell : wr.cell? ⟨b, off + k, none⟩ = some (strV t) := by rw [HW.out.cell (p := ⟨b, off + k, none⟩) hlt']; exact HC.out k t ht
        have HT := Lib.hid (HA.out t (List.mem_of_getElem? ht))
        clear ht
        go_wp2_with fail
        refine (check_ok t HT.out _).mono ?_
        rintro e w1 ⟨rfl, hb1⟩
        have HN := Lib.hid (HW.out.trans (hb1.mono (by have := HW.out.size; have := HB.out; omega)))
        clear hb1 hcell
        go_wp2_with fail
        go_roundw
        case rel => exact ⟨k + 1, by omega, by go_num, HN.out⟩
        case measure => simp [RowKit.intOf]; omega
      · obtain rfl : k = A.length := by omega
        have hbw : Below w.heap.size w wr := by have := HB.out; subst this; exact HW.out
        have hj := (fun w' (h : Below wr.heap.size wr w') => join_calls A _ cap w' (HR.out.below (bl_trans hbw h)) hl (by omega))
        generalize hf : A.flatten = f at hj hfl2
        have HF := Lib.hid hf
        have HJ := Lib.hid hj
        clear hf hj
        have HBW := Lib.hid hbw
        clear hbw hlk
        by_cases hV : g = [86]
        · subst hV
          go_wp2_with fail
          refine (HJ.out _ (Below.refl _ _)).mono ?_
          rintro e w1 ⟨rfl, hb1⟩
          go_wp2_with fail
          go_ret2
          exact ⟨ret_make (by rw [HF.out]), bl_trans HBW.out hb1⟩
        · have hq : (g == [86]) = false := by rw [beq_eq_false_iff_ne]; exact hV
          have hg : TypeOk g := HG.out.resolve_left hV
          have HK := Lib.hid (fun w => check_ok g hg w)
          clear hg
          go_wp2_with fail
          refine (HK.out _).mono ?_
          rintro e w1 ⟨rfl, hb1⟩
          go_wp2_with fail
          refine (HJ.out _ hb1).mono ?_
          rintro e w2 ⟨rfl, hb2⟩
          go_wp2_with fail
          go_ret2
          exact ⟨ret_make (by rw [HF.out]), bl_trans HBW.out (bl_trans hb1 hb2)⟩
end Go.Proofs.YtkobgmacoakelaaDoor
