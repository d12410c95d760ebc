/-
  The walk of class.method.
-/
import Derived.Test.YtokomofjcnefaaaDoorClass3
namespace Go.Proofs.YtokomofjcnefaaaDoor
set_option linter.unusedVariables false
set_option linter.unusedSimpArgs false
open Go.RowKit Go.Shelf Go.Lib

set_option maxRecDepth 100000 in
set_option maxHeartbeats 2000000 in
theorem method_walk (m : MethR) (p : MAddr) (l : List MethR) (a : Option Addr) (cap : Nat) (ps : List MAddr) (w : World) (hM : MethAt w m p) (hL : MethsAt w a cap l ps) (hF : FormsAt w) (hT : ∀ x ∈ m.code, x.ty.length ≤ 8388608) (ht : m.ty.length ≤ 8388608) (hcl : m.code.length ≤ 100000000) (hhl : m.hs.length ≤ 100000000) (hll : l.length ≤ 1000000000) :
    Calls Tryd.prog 45 #[methV m p, .slice a l.length cap] w fun e w' => e = .returned (errOf (methErr m l)) ∧ Below w.heap.size w w' := by
  generalize hE : errOf (methErr m l) = E
  have HE := Lib.hid hE
  have HX := Lib.hid (mbox_new w m p)
  have HM := Lib.hid hM
  have HL := Lib.hid hL
  have HF := Lib.hid hF
  have HBD := Lib.hid (fun w h1 h2 => body_calls m p w h1 h2 hT ht hcl hhl)
  have HMT := Lib.hid (fun w => mty_calls m.ty ht w)
  clear hE hM hL hF hT
  unfold methV at HBD
  unfold methV
  cases hn : nameOk m.nm with
  | false =>
    have HN := Lib.hid (fun w => name_bad ⟨⟨m.nm⟩⟩ w hn)
    have HEE := Lib.hid (show E = errV 1 by rw [← HE.out]; unfold methErr; rw [if_pos hn]; rfl)
    clear hn
    go_enter Tryd.func45, Tryd.ntmps45
    obtain ⟨hg, c0, c1, c2, c3, c4, c5, c6, c7⟩ := HX.out
    go_wp2_with fail
    refine (HN.out _).mono ?_
    rintro e w1 ⟨rfl, hb1⟩
    have HB1 := Lib.hid (new_below hb1)
    clear hb1 c0 c1 c2 c3 c4 c5 c6 c7
    go_wp2_with fail
    go_ret
    exact ⟨by rw [HEE.out]; rfl, HB1.out⟩
  | true =>
    have HN := Lib.hid (fun w => name_ok ⟨⟨m.nm⟩⟩ w hn)
    have he1 : methErr m l = if mtyErr m.ty ≠ 0 then 1 else if l.any (fun x => x.nm == m.nm && x.ty == m.ty) then 5 else if m.loc < 0 ∨ 8 < m.loc then 2 else bodyErr m := by
      unfold methErr; rw [if_neg (by rw [hn]; simp)]
    have HE1 := Lib.hid (show errOf (if mtyErr m.ty ≠ 0 then 1 else if l.any (fun x => x.nm == m.nm && x.ty == m.ty) then 5 else if m.loc < 0 ∨ 8 < m.loc then 2 else bodyErr m) = E by rw [← he1]; exact HE.out)
    clear hn he1 HE
    go_enter Tryd.func45, Tryd.ntmps45
    obtain ⟨hg, c0, c1, c2, c3, c4, c5, c6, c7⟩ := HX.out
    clear c2 c3 c4 c5 c6 c7
    go_wp2_with fail
    refine (HN.out _).mono ?_
    rintro e w1 ⟨rfl, hb1⟩
    have HB1 := Lib.hid (new_below hb1)
    have HX1 := Lib.hid (HX.out.below hb1)
    clear hb1 c0 c1 hg HX
    obtain ⟨hg, c0, c1, c2, c3, c4, c5, c6, c7⟩ := HX1.out
    clear c2 c3 c4 c5 c6 c7
    go_wp2_with fail
    refine (HMT.out _).mono ?_
    rintro e w2 ⟨ra, rn, rcap, rg, rfl, hb2, _, _⟩
    have HB2 := Lib.hid (bl_trans HB1.out hb2)
    have HX2 := Lib.hid (HX1.out.below hb2)
    clear hb2 c0 c1 hg HX1 HB1
    by_cases he : mtyErr m.ty = 0
    case neg =>
      have h1 : mtyErr m.ty = 1 := by unfold mtyErr at he ⊢; split at he <;> simp_all
      have HEE := Lib.hid (show E = errV 1 by rw [← HE1.out, if_pos he]; rfl)
      rw [h1, errOf_one]
      clear he h1
      go_wp2_with fail
      go_ret
      exact ⟨by rw [HEE.out]; rfl, HB2.out⟩
    case pos =>
      have HE2 := Lib.hid HE1.out
      rw [if_neg (by simp [he])] at HE2
      rw [he, errOf_zero]
      clear he HE1
      obtain ⟨hg, c0, c1, c2, c3, c4, c5, c6, c7⟩ := HX2.out
      have HCT := Lib.hid (containsMeth l a cap ps w2 #[.pointer (some ⟨w.heap.size, 0, none⟩)] (fun x => x.nm == m.nm && x.ty == m.ty) (HL.out.below HB2.out) hll (fun k x q _ _ => sameMeth x m q w.heap.size w2 hg c0 c1))
      cases hany : l.any (fun x => x.nm == m.nm && x.ty == m.ty) with
      | true =>
        have HEE := Lib.hid (show E = errV 5 by rw [← HE2.out, if_pos hany]; rfl)
        rw [hany] at HCT
        clear hany c0 c1 c2 c3 c4 c5 c6 c7
        go_wp2_with fail
        refine HCT.out.mono ?_
        rintro e w3 ⟨rfl, hb3⟩
        have HB3 := Lib.hid (bl_trans HB2.out hb3)
        clear hb3
        go_wp2_with fail
        go_ret
        exact ⟨by rw [HEE.out]; rfl, HB3.out⟩
      | false =>
        have HE3 := Lib.hid HE2.out
        rw [if_neg (by rw [hany]; simp)] at HE3
        rw [hany] at HCT
        clear hany c0 c1 c2 c3 c4 c5 c6 c7 HE2
        go_wp2_with fail
        refine HCT.out.mono ?_
        rintro e w3 ⟨rfl, hb3⟩
        have HB3 := Lib.hid (bl_trans HB2.out hb3)
        have HX3 := Lib.hid (HX2.out.below hb3)
        clear hb3 hg HX2 HB2 HCT
        obtain ⟨hg, c0, c1, c2, c3, c4, c5, c6, c7⟩ := HX3.out
        by_cases hlo : m.loc < 0 ∨ 8 < m.loc
        · have HEE := Lib.hid (show E = errV 2 by rw [← HE3.out, if_pos hlo]; rfl)
          have hway : m.loc < 0 ∨ (¬ m.loc < 0 ∧ 8 < m.loc) := by omega
          clear hlo c0 c1 c2 c3 c4 c6 c7
          rcases hway with h1 | ⟨h1, h2⟩
          all_goals
            go_wp2_with fail
            go_ret
            exact ⟨by rw [HEE.out]; rfl, HB3.out⟩
        · have HEE := Lib.hid (show E = errOf (bodyErr m) by rw [← HE3.out, if_neg hlo])
          have h1 : ¬ m.loc < 0 := by omega
          have h2 : ¬ 8 < m.loc := by omega
          clear hlo
          go_wp2_with fail
          refine (HBD.out _ (HM.out.below HB3.out) (HF.out.below HB3.out)).mono ?_
          rintro e w4 ⟨rfl, hb4⟩
          have HB4 := Lib.hid (bl_trans HB3.out hb4)
          clear hb4
          go_wp2_with fail
          go_ret
          exact ⟨by rw [HEE.out]; rfl, HB4.out⟩
end Go.Proofs.YtokomofjcnefaaaDoor
