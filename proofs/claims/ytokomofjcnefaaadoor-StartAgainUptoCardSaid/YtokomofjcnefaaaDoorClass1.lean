/-
  The walks of class.Handlers and class.Args.
-/
import Derived.Test.YtokomofjcnefaaaDoorClassAt
import Derived.Test.YtokomofjcnefaaaDoorFlowCheck
namespace Go.Proofs.YtokomofjcnefaaaDoor
set_option linter.unusedVariables false
set_option linter.unusedSimpArgs false
open Go.RowKit Go.Shelf Go.Lib

theorem name_errOf (l : List UInt8) (w : World) : Calls Tryd.prog 15 #[.string ⟨⟨l⟩⟩] w fun e w' => e = .returned (errOf (if nameOk l then 0 else 1)) ∧ Below w.heap.size w w' := by
  cases h : nameOk l
  · exact name_bad ⟨⟨l⟩⟩ w h
  · exact name_ok ⟨⟨l⟩⟩ w h

@[go_sem] theorem errOf_zero : errOf 0 = .nilIface := rfl
@[go_sem] theorem errOf_one : errOf 1 = errV 1 := rfl
theorem errOf_ne {n : Int} (h : n ≠ 0) : errOf n = errV n := by unfold errOf; rw [if_neg h]

/-- one handler's four tests -/
theorem hand_ways (n : Int) (h : HandR) : (hand1 n h = 2 ∧ (h.lo < 0 ∨ (0 ≤ h.lo ∧ h.hi ≤ h.lo) ∨ (0 ≤ h.lo ∧ h.lo < h.hi ∧ n < h.hi) ∨ (0 ≤ h.lo ∧ h.lo < h.hi ∧ h.hi ≤ n ∧ h.at_ < 0) ∨ (0 ≤ h.lo ∧ h.lo < h.hi ∧ h.hi ≤ n ∧ 0 ≤ h.at_ ∧ n ≤ h.at_))) ∨
    ((0 ≤ h.lo ∧ h.lo < h.hi ∧ h.hi ≤ n ∧ 0 ≤ h.at_ ∧ h.at_ < n) ∧ hand1 n h = if nameOk h.cl then 0 else 1) := by
  unfold hand1
  by_cases hb : h.lo < 0 ∨ h.hi ≤ h.lo ∨ n < h.hi ∨ h.at_ < 0 ∨ n ≤ h.at_
  · rw [if_pos hb]
    left
    exact ⟨rfl, by omega⟩
  · rw [if_neg hb]
    right
    refine ⟨by omega, ?_⟩
    cases nameOk h.cl <;> simp

def hErr (n : Int) (hs : List HandR) (j : Nat) : Int := (hs[j]?).elim 0 (hand1 n)
theorem hErr_at {n : Int} {hs : List HandR} {j : Nat} {h : HandR} (hj : hs[j]? = some h) : hErr n hs j = hand1 n h := by unfold hErr; rw [hj]; rfl
theorem handErr_at {n : Int} {hs : List HandR} {k : Nat} (h0 : ∀ j, j < k → hErr n hs j = 0) (hk : hErr n hs k ≠ 0) (hl : k < hs.length) : handErr n hs = hErr n hs k := by
  have := firstNZ_at h0 hk _ hl
  unfold handErr
  show (if firstNZ (hErr n hs) hs.length ≠ 0 then firstNZ (hErr n hs) hs.length else _) = _
  rw [this, if_pos hk]
theorem handErr_zero {n : Int} {hs : List HandR} (h0 : ∀ j, j < hs.length → hErr n hs j = 0) : handErr n hs = if 8 < hs.length then 4 else 0 := by
  have := (firstNZ_zero (hErr n hs) hs.length).2 h0
  unfold handErr
  show (if firstNZ (hErr n hs) hs.length ≠ 0 then firstNZ (hErr n hs) hs.length else _) = _
  rw [this, if_neg (by simp)]

theorem upto_succ {f : Nat → Int} {k : Nat} (h : ∀ j, j < k → f j = 0) (hk : f k = 0) : ∀ j, j < k + 1 → f j = 0 := by
  intro j hj
  by_cases e : j = k
  · rw [e]; exact hk
  · exact h j (by omega)

set_option maxRecDepth 100000 in
set_option maxHeartbeats 2000000 in
theorem handlers_calls (m : MethR) (p : MAddr) (w : World) (hM : MethAt w m p) (hcl : m.code.length ≤ 100000000) (hhl : m.hs.length ≤ 100000000) :
    Calls Tryd.prog 88 #[methV m p] w fun e w' => e = .returned (errOf (handErr m.code.length m.hs)) ∧ Below w.heap.size w w' := by
  generalize hE : errOf (handErr m.code.length m.hs) = E
  have HE := Lib.hid hE
  have HM := Lib.hid hM
  have HX := Lib.hid (mbox_new w m p)
  clear hE hM
  unfold methV
  go_enter Tryd.func88, Tryd.ntmps88
  obtain ⟨hg, c0, c1, c2, c3, c4, c5, c6, c7⟩ := HX.out
  go_wp2_with fail
  clear hg c0 c1 c2 c3 c4 c5 c6 c7
  go_loopw [8] (fun i wr => ∃ k : Nat, k ≤ m.hs.length ∧ i = .int .i64 k ∧ Below w.heap.size w wr ∧ MBox wr w.heap.size m p ∧ Hid (∀ j, j < k → hErr m.code.length m.hs j = 0)) (fun i _ => m.hs.length - (RowKit.intOf i).toNat)
  case atStart => exact ⟨0, by omega, rfl, (Below.refl _ _).alloc (Nat.le_refl _) _, HX.out, Lib.hid (by omega)⟩
  case round =>
    obtain ⟨k, hk, rfl, hb, hbx, HZ⟩ := hrel
    have HB := Lib.hid hb
    have HBX := Lib.hid hbx
    obtain ⟨hg, c0, c1, c2, c3, c4, c5, c6, c7⟩ := hbx
    have hcw := HM.out.2.below hb
    have hsz := hb.size
    clear hb
    by_cases hlk : k < m.hs.length
    · obtain ⟨x, hx⟩ : ∃ x, m.hs[k]? = some x := ⟨_, List.getElem?_eq_getElem hlk⟩
      obtain ⟨b, off, hpa, hlt, d0, d1, d2, d3⟩ := hcw.cells hx
      have HXE := Lib.hid (hErr_at (n := m.code.length) hx)
      rw [hpa] at *
      clear hcw hx c0 c1 c2 c3 c4 c5
      rcases hand_ways m.code.length x with ⟨h2, hway⟩ | ⟨hgood, h2⟩
      · have HEE := Lib.hid (show E = errV 2 by
          rw [← HE.out, handErr_at HZ.out (by rw [HXE.out, h2]; omega) hlk, HXE.out, h2]; rfl)
        clear h2
        rcases hway with h | ⟨h1, h⟩ | ⟨h1, h3, h⟩ | ⟨h1, h3, h4, h⟩ | ⟨h1, h3, h4, h5, h⟩
        all_goals
          go_wp2_with fail
          go_ret
          exact ⟨by rw [HEE.out]; rfl, HB.out.alloc hsz _⟩
      · obtain ⟨h1, h3, h4, h5, h6⟩ := hgood
        have HN := Lib.hid (fun w => name_errOf x.cl w)
        have H2 := Lib.hid h2
        clear h2
        cases hn : nameOk x.cl with
        | true =>
          rw [hn] at HN H2
          simp only [if_true, if_false, Bool.false_eq_true, errOf_zero, errOf_one] at HN
          have HZ2 := Lib.hid (upto_succ HZ.out (by rw [HXE.out, H2.out]; rfl))
          clear hn
          go_wp2_with fail
          refine (HN.out _).mono ?_
          rintro e w2 ⟨rfl, hb2⟩
          have HB2 := Lib.hid (bl_trans HB.out (new_below hb2))
          have HBX2 := Lib.hid (HBX.out.below (new_below hb2))
          clear hb2
          go_wp2_with fail
          go_roundw
          case rel => exact ⟨k + 1, by omega, by go_num, HB2.out, HBX2.out, HZ2⟩
          case measure => simp [RowKit.intOf]; omega
        | false =>
          rw [hn] at HN H2
          simp only [if_true, if_false, Bool.false_eq_true, errOf_zero, errOf_one] at HN
          have HEE := Lib.hid (show E = errV 1 by
            rw [← HE.out, handErr_at HZ.out (by rw [HXE.out, H2.out]; simp) hlk, HXE.out, H2.out]; rfl)
          clear hn
          go_wp2_with fail
          refine (HN.out _).mono ?_
          rintro e w2 ⟨rfl, hb2⟩
          have HB2 := Lib.hid (bl_trans HB.out (new_below hb2))
          clear hb2
          go_wp2_with fail
          go_ret
          exact ⟨by rw [HEE.out]; rfl, HB2.out⟩
    · obtain rfl : k = m.hs.length := by omega
      have hz := handErr_zero HZ.out
      clear hcw c0 c1 c2 c3 c4 c5
      by_cases h8 : 8 < m.hs.length
      · rw [if_pos h8] at hz
        have HEE := Lib.hid (show E = errV 4 by rw [← HE.out, hz]; rfl)
        clear hz
        go_wp2_with fail
        go_ret
        exact ⟨by rw [HEE.out]; rfl, HB.out⟩
      · rw [if_neg h8] at hz
        have HEE := Lib.hid (show E = .nilIface by rw [← HE.out, hz]; rfl)
        clear hz
        go_wp2_with fail
        go_ret
        exact ⟨by rw [HEE.out]; rfl, HB.out⟩

/-- what desc.Method tells, as far as class asks -/
theorem mty_calls (t : List UInt8) (ht : t.length ≤ 8388608) (w : World) : Calls Tryd.prog 67 #[.string ⟨⟨t⟩⟩] w fun e w' => ∃ a n cap g, e = .returned (.tuple #[.slice a n cap, .string ⟨⟨g⟩⟩, errOf (mtyErr t)]) ∧ Below w.heap.size w w' ∧ (mtyErr t = 0 → (n : Int) = argsN t) ∧ n ≤ 5 := by
  refine (method_calls t ht w).mono ?_
  rintro e w' ⟨hb, ⟨rfl, hn⟩ | ⟨v, A, g, rfl, hm, ho⟩⟩
  · have h0 : mtyErr t = 1 := by unfold mtyErr; rw [if_neg (by rintro ⟨A, g, h⟩; exact hn A g h)]
    exact ⟨none, 0, 0, [], by rw [h0]; rfl, hb, by rw [h0]; omega, by omega⟩
  · have h0 : mtyErr t = 0 := by unfold mtyErr; rw [if_pos ⟨A, g, hm⟩]
    obtain ⟨a, cap, rfl, _⟩ := slice_of_own ho
    exact ⟨a, A.length, cap, g, by rw [h0]; rfl, hb, fun _ => (argsN_of hm).symm, hm.2.2.1⟩

set_option maxRecDepth 100000 in
set_option maxHeartbeats 2000000 in
theorem args_calls (m : MethR) (p : MAddr) (w : World) (ht : m.ty.length ≤ 8388608) :
    Calls Tryd.prog 87 #[methV m p] w fun e w' => e = .returned (.int .i64 (argsOf m)) ∧ Below w.heap.size w w' := by
  have HX := Lib.hid (mbox_new w m p)
  have HT := Lib.hid (fun w => mty_calls m.ty ht w)
  generalize hR : argsOf m = R
  have HR := Lib.hid hR
  clear hR
  unfold methV
  go_enter Tryd.func87, Tryd.ntmps87
  obtain ⟨hg, c0, c1, c2, c3, c4, c5, c6, c7⟩ := HX.out
  go_wp2_with fail
  clear hg c0 c1 c2 c3 c4 c5 c6 c7
  refine (HT.out _).mono ?_
  rintro e w1 ⟨a, n, cap, g, rfl, hb1, hn, hn5⟩
  have HN := Lib.hid hn
  have HB1 := Lib.hid (new_below hb1)
  obtain ⟨hg, c0, c1, c2, c3, c4, c5, c6, c7⟩ := HX.out.below hb1
  clear hb1 hn c0 c1 c3 c4 c5 c6 c7
  by_cases he : mtyErr m.ty = 0
  · have hr : R = if m.stat then (n : Int) else (n : Int) + 1 := by
      rw [← HR.out]
      unfold argsOf
      rw [if_neg (by simp [he]), HN.out he]
    have HRR := Lib.hid hr
    rw [he, errOf_zero]
    clear he hr
    cases hs : m.stat with
    | true =>
      rw [hs] at HRR c2
      go_wp2_with fail
      go_ret
      exact ⟨by rw [HRR.out]; rfl, HB1.out⟩
    | false =>
      rw [hs] at HRR c2
      go_wp2_with fail
      go_ret
      exact ⟨by rw [HRR.out]; rfl, HB1.out⟩
  · have HRR := Lib.hid (show R = 0 by rw [← HR.out]; unfold argsOf; rw [if_pos he])
    rw [errOf_ne he]
    generalize mtyErr m.ty = q at *
    have HQ := Lib.hid he
    clear he c2
    go_wp2_with fail
    go_ret
    exact ⟨by rw [HRR.out]; rfl, HB1.out⟩
end Go.Proofs.YtokomofjcnefaaaDoor
