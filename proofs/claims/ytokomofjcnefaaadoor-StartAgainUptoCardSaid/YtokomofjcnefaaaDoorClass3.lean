/-
  The walks of class.body and class.method.
-/
import Derived.Test.YtokomofjcnefaaaDoorClass2
import Derived.BigQuiet
import Derived.Deep.RegionWith
namespace Go.Proofs.YtokomofjcnefaaaDoor
set_option linter.unusedVariables false
set_option linter.unusedSimpArgs false
open Go.RowKit Go.Shelf Go.Lib

theorem flow_errOf (l : List InsR) (a : Option Addr) (cap : Nat) (w : World) (hC : CodeAt w a cap l) (hF : FormsAt w) (hT : ∀ x ∈ l, x.ty.length ≤ 8388608) :
    Calls Tryd.prog 86 #[.slice a l.length cap] w fun e w' => e = .returned (errOf (flowErr l)) ∧ Below w.heap.size w w' := flowCheck_calls l a cap w hC hF hT

set_option maxRecDepth 100000 in
set_option maxHeartbeats 2000000 in
theorem body_abst (m : MethR) (p : MAddr) (w : World) (ha : m.abst = true) :
    Calls Tryd.prog 70 #[methV m p] w fun e w' => e = .returned (errOf (bodyErr m)) ∧ Below w.heap.size w w' := by
  have HX := Lib.hid (mbox_new w m p)
  by_cases hb : m.stat || m.priv || !m.code.isEmpty || !m.hs.isEmpty
  · have he : bodyErr m = 8 := by unfold bodyErr; rw [if_pos ha, if_pos hb]
    rw [he]
    clear he
    have hway : m.stat = true ∨ (m.stat = false ∧ m.priv = true) ∨ (m.stat = false ∧ m.priv = false ∧ 0 < m.code.length) ∨ (m.stat = false ∧ m.priv = false ∧ m.code.length = 0 ∧ 0 < m.hs.length) := by
      cases h1 : m.stat
      · cases h2 : m.priv
        · cases h3 : m.code with
          | nil =>
            cases h4 : m.hs with
            | nil => simp [h1, h2, h3, h4] at hb
            | cons => simp
          | cons => simp
        · simp
      · simp
    clear hb
    rcases hway with h1 | ⟨h1, h2⟩ | ⟨h1, h2, h3⟩ | ⟨h1, h2, h3, h4⟩
    all_goals
      unfold methV
      go_enter Tryd.func70, Tryd.ntmps70
      obtain ⟨hg, c0, c1, c2, c3, c4, c5, c6, c7⟩ := HX.out
      rw [ha] at c3
      rw [h1] at c2
      try rw [h2] at c4
      go_wp2_with fail
      go_ret
      exact ⟨rfl, (Below.refl _ _).alloc (Nat.le_refl _) _⟩
  · have he : bodyErr m = 0 := by unfold bodyErr; rw [if_pos ha, if_neg hb]
    rw [he]
    clear he
    simp only [Bool.or_eq_true, not_or, Bool.not_eq_true, Bool.not_eq_false', List.isEmpty_iff] at hb
    obtain ⟨⟨⟨h1, h2⟩, h3⟩, h4⟩ := hb
    unfold methV
    go_enter Tryd.func70, Tryd.ntmps70
    obtain ⟨hg, c0, c1, c2, c3, c4, c5, c6, c7⟩ := HX.out
    rw [ha] at c3
    rw [h1] at c2
    rw [h2] at c4
    rw [h3] at c6
    rw [h4] at c7
    simp only [List.length_nil] at c6 c7
    go_wp2_with fail
    go_ret
    exact ⟨rfl, (Below.refl _ _).alloc (Nat.le_refl _) _⟩

theorem loc_any {loc : Int} {l : List InsR} {k : Nat} {x : InsR} (hx : l[k]? = some x) (h : locB loc x = true) : l.any (locB loc) = true := any_hit hx h

set_option maxRecDepth 100000 in
set_option maxHeartbeats 4000000 in
theorem body_calls (m : MethR) (p : MAddr) (w : World) (hM : MethAt w m p) (hF : FormsAt w) (hT : ∀ x ∈ m.code, x.ty.length ≤ 8388608) (ht : m.ty.length ≤ 8388608) (hcl : m.code.length ≤ 100000000) (hhl : m.hs.length ≤ 100000000) :
    Calls Tryd.prog 70 #[methV m p] w fun e w' => e = .returned (errOf (bodyErr m)) ∧ Below w.heap.size w w' := by
  cases ha : m.abst with
  | true => exact body_abst m p w ha
  | false =>
    have hB : bodyErr m = if flowErr m.code ≠ 0 then flowErr m.code else if m.loc < argsOf m then 2 else if m.code.any (locB m.loc) then 2 else handErr m.code.length m.hs := by
      rw [bodyErr, ha]; simp
    rw [hB]
    generalize hE : errOf (if flowErr m.code ≠ 0 then flowErr m.code else if m.loc < argsOf m then 2 else if m.code.any (locB m.loc) then 2 else handErr m.code.length m.hs) = E
    have HE := Lib.hid hE
    have HX := Lib.hid (mbox_new w m p)
    have HM := Lib.hid hM
    have HF := Lib.hid hF
    have HFL := Lib.hid (fun w h1 h2 => flow_errOf m.code p.ca p.cc w h1 h2 hT)
    have HAR := Lib.hid (fun w => args_calls m p w ht)
    have HHD := Lib.hid (fun w h1 => handlers_calls m p w h1 hcl hhl)
    rw [ha] at HX
    clear hB hE hM hF hT
    unfold methV at HAR HHD
    unfold methV
    go_enter Tryd.func70, Tryd.ntmps70
    obtain ⟨hg, c0, c1, c2, c3, c4, c5, c6, c7⟩ := HX.out
    rw [ha] at c3
    clear c0 c1 c2 c4 c5 c7
    go_wp2_with fail
    refine (HFL.out _ (HM.out.1.below ((Below.refl _ _).alloc (Nat.le_refl _) _)) (HF.out.below ((Below.refl _ _).alloc (Nat.le_refl _) _))).mono ?_
    rintro e w1 ⟨rfl, hb1⟩
    have HB1 := Lib.hid (new_below hb1)
    have HX1 := Lib.hid (HX.out.below hb1)
    have HA := Lib.hid ha
    clear hb1 HFL HF HX hg c3 c6 ha
    by_cases hf : flowErr m.code = 0
    case neg =>
      have HEE := Lib.hid (show E = errV (flowErr m.code) by rw [← HE.out, if_pos hf]; exact errOf_ne hf)
      rw [errOf_ne hf]
      generalize flowErr m.code = q at *
      have HQ := Lib.hid hf
      clear hf
      go_wp2_with fail
      go_ret
      exact ⟨by rw [HEE.out]; rfl, HB1.out⟩
    case pos =>
      rw [hf] at HE
      rw [hf, errOf_zero]
      simp only [ne_eq, not_true_eq_false, if_false] at HE
      clear hf
      obtain ⟨hg, c0, c1, c2, c3, c4, c5, c6, c7⟩ := HX1.out
      have HX1d := Lib.hid (show MBox w1.drew w.heap.size m p from HX1.out)
      go_wp2_with fail
      go_region_with (go_at_call 87; refine (HAR.out _).mono ?_; rintro e w2 ⟨rfl, hb2⟩; obtain ⟨hg', d0, d1, d2, d3, d4, d5, d6, d7⟩ := HX1d.out.below hb2; have HB2 := Lib.hid (bl_trans (Below.refl _ _).drew hb2); have HX2 := Lib.hid (HX1d.out.below hb2); clear hb2)
      all_goals
        have HBT := Lib.hid (bl_trans HB1.out HB2.out)
        clear c0 c1 c2 c3 c4 c5 c6 c7 hg HX1 HX1d HAR
        clear d0 d1 d2 d3 d4 d7
        generalize hAG : argsOf m = ag at *
        by_cases hl : m.loc < ag
        · have HEE := Lib.hid (show E = errV 2 by rw [← HE.out, if_pos hl]; rfl)
          go_wp2_with fail
          go_ret
          exact ⟨by rw [HEE.out]; rfl, HBT.out⟩
        · have HE2 := Lib.hid HE.out
          rw [if_neg hl] at HE2
          clear HE hAG
          go_wp2_with fail
          clear hl
          go_loopw [42] (fun i wr => ∃ k : Nat, k ≤ m.code.length ∧ i = .int .i64 k ∧ Below w.heap.size w wr ∧ MBox wr w.heap.size m p ∧ Hid (∀ x ∈ m.code.take k, locB m.loc x = false)) (fun i _ => m.code.length - (RowKit.intOf i).toNat)
          case atStart => exact ⟨0, by omega, rfl, HBT.out, HX2.out, Lib.hid (by simp)⟩
          case round =>
            obtain ⟨k, hk, rfl, hb, hbx, HZ⟩ := hrel
            have HB := Lib.hid hb
            have HBX := Lib.hid hbx
            obtain ⟨hg, c0, c1, c2, c3, c4, c5, c6, c7⟩ := hbx
            have hcw := HM.out.1.below hb
            have hsz := hb.size
            clear hb HX2
            by_cases hlk : k < m.code.length
            · obtain ⟨x, hx⟩ : ∃ x, m.code[k]? = some x := ⟨_, List.getElem?_eq_getElem hlk⟩
              obtain ⟨b, off, hpa, hlt, e0, e1, e2, e3, e4, e5⟩ := hcw.cells hx
              have HX := Lib.hid hx
              rw [hpa] at *
              clear hcw hx c0 c1 c2 c3 c4 c7
              by_cases hlb : locB m.loc x = true
              · have HEE := Lib.hid (show E = errV 2 by rw [← HE2.out, if_pos (loc_any HX.out hlb)]; rfl)
                have hway : (x.op = 4 ∧ m.loc ≤ x.a) ∨ (¬ x.op = 4 ∧ x.op = 5 ∧ m.loc ≤ x.a) := by
                  simp only [locB, Bool.and_eq_true, Bool.or_eq_true, beq_iff_eq, decide_eq_true_eq] at hlb
                  omega
                clear hlb
                rcases hway with ⟨h1, h2⟩ | ⟨h0, h1, h2⟩
                all_goals
                  have h3 : (x.op == 4) = decide (x.op = 4) := rfl
                  go_wp2_with fail
                  go_ret
                  exact ⟨by rw [HEE.out]; rfl, HB.out.alloc hsz _⟩
              · have hlf : locB m.loc x = false := by simpa using hlb
                have HZ2 := Lib.hid (take_all_succ HZ.out HX.out hlf)
                have hway : (¬ x.op = 4 ∧ ¬ x.op = 5) ∨ (x.op = 4 ∧ x.a < m.loc) ∨ (¬ x.op = 4 ∧ x.op = 5 ∧ x.a < m.loc) := by
                  simp only [locB, Bool.and_eq_false_iff, Bool.or_eq_false_iff, beq_eq_false_iff_ne, decide_eq_false_iff_not] at hlf
                  omega
                clear hlb hlf
                rcases hway with ⟨h1, h2⟩ | ⟨h1, h2⟩ | ⟨h0, h1, h2⟩
                all_goals
                  go_wp2_with fail
                  go_roundw
                  case rel => exact ⟨k + 1, by omega, by go_num, HB.out.alloc hsz _, HBX.out.below ((Below.refl _ _).alloc (Nat.le_refl _) _), HZ2⟩
                  case measure => simp [RowKit.intOf]; omega
            · obtain rfl : k = m.code.length := by omega
              have HA2 := Lib.hid (any_miss (by have := HZ.out; rwa [List.take_length] at this))
              have HEE := Lib.hid (show E = errOf (handErr m.code.length m.hs) by rw [← HE2.out, HA2.out]; rfl)
              have HMW := Lib.hid (HM.out.below HB.out)
              clear hcw
              go_wp2_with fail
              refine (HHD.out _ HMW.out).mono ?_
              rintro e w4 ⟨rfl, hb4⟩
              have HB4 := Lib.hid (bl_trans HB.out hb4)
              clear hb4
              go_wp2_with fail
              go_ret
              exact ⟨by rw [HEE.out]; rfl, HB4.out⟩
end Go.Proofs.YtokomofjcnefaaaDoor
