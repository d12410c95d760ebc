/-
  RightFound: the walk of the law.
-/
import Derived.Test.YtpkhfcbkadkadaaDoorRight2
import Derived.Test.YtpkhfcbkadkadaaDoorFind3
import Derived.Test.YtpkhfcbkadkadaaDoorFrame
namespace Go.Proofs.YtpkhfcbkadkadaaDoor
set_option linter.unusedVariables false
set_option linter.unusedSimpArgs false
open Go.RowKit Go.Shelf Go.Lib

/-- what may be called: its parts -/
theorem call_zero {l : List ClassR} {fr c n k : Nm} {st : Bool} (h : callErr l fr c n k st = 0) : withErr l c = 0 ∧ ∃ x m, methOf (wl l) c n k = some (x, m) ∧ m.stat = st ∧ callErr l fr c n k (!st) = 7 := by
  unfold callErr at h ⊢
  by_cases hr : readErr l = 0
  · rw [if_neg (by simp [hr])] at h ⊢
    unfold foundErr at h
    by_cases hc : look (wl l) c = none
    · rw [if_pos hc] at h; omega
    · rw [if_neg hc] at h
      have hcn : c ∈ names l := look_some.1 (by cases hl : look (wl l) c with | none => exact absurd hl hc | some d => rfl)
      refine ⟨withErr_zero.2 ⟨(readErr_zero l).1 hr, hcn⟩, ?_⟩
      cases hm : methOf (wl l) c n k with
      | none => rw [hm] at h; simp at h
      | some xm =>
        obtain ⟨x, m⟩ := xm
        rw [hm] at h
        simp only at h
        by_cases hf : look (wl l) fr = none
        · rw [if_pos hf] at h; omega
        · rw [if_neg hf] at h
          by_cases hs : m.stat = st
          · refine ⟨x, m, rfl, hs, ?_⟩
            unfold foundErr
            rw [if_neg hc, hm]
            simp only
            rw [if_neg hf, if_pos (by rw [hs]; cases st <;> simp)]
          · rw [if_pos hs] at h; omega
  · rw [if_pos hr] at h; exact absurd h hr

set_option maxRecDepth 100000 in
set_option maxHeartbeats 4000000 in
theorem rightFound_go (l : List ClassR) (ps : List CAddr) (a : Option Addr) (cap : Nat) (fr c n kd : Nm) (st : Bool) (w : World) (hC : ClassesAt w a cap l ps) (hF : FormsAt w) (hB : ClsOk l) (hll : l.length ≤ 1048576) (hfr : fr.length ≤ 1048576) (hc : c.length ≤ 1048576) (hn : n.length ≤ 1048576) (hkd : kd.length ≤ 1048576) :
    Calls Tryd.prog 5 #[.slice a l.length cap, .string ⟨⟨fr⟩⟩, .string ⟨⟨c⟩⟩, .string ⟨⟨n⟩⟩, .string ⟨⟨kd⟩⟩, .bool st] w fun e w' => e = .returned (.bool true) ∧ Below w.heap.size w w' := by
  have HC := Lib.hid hC
  have HF := Lib.hid hF
  have HB := Lib.hid hB
  clear hC hF hB
  have HCA := Lib.hid (fun st W (hW : Below w.heap.size w W) => call_calls l ps a cap fr c n kd st W (HC.out.below hW) (HF.out.below hW) HB.out hfr hc)
  have HFI := Lib.hid (fun W (hW : Below w.heap.size w W) => method_calls_find l ps a cap c n kd W (HC.out.below hW) (HF.out.below hW) HB.out hc)
  have HZ := Lib.hid (fun st => @call_zero l fr c n kd st)
  go_enter Tryd.func5, Tryd.ntmps5
  go_wp2_with fail
  refine (named_true _).mono ?_
  rintro e w1 ⟨rfl, hb1⟩
  have HB1 := Lib.hid hb1
  clear hb1
  go_wp2_with fail
  refine (HCA.out st _ HB1.out).mono ?_
  rintro e w2 ⟨rfl, hb2⟩
  have HB2 := Lib.hid (bl_trans HB1.out hb2)
  clear hb2
  go_wp2_with fail
  refine (HCA.out (!st) _ HB2.out).mono ?_
  rintro e w3 ⟨rfl, hb3⟩
  have HB3 := Lib.hid (bl_trans HB2.out hb3)
  clear hb3
  by_cases h1 : callErr l fr c n kd st = 0
  · obtain ⟨hw0, x, m, hm, hst, h7⟩ := HZ.out st h1
    rw [h1, h7, errOf_zero]
    have E7 : errOf 7 = errV 7 := rfl
    rw [E7]
    have HM := Lib.hid hm
    have HW0 := Lib.hid hw0
    clear h1 hm hw0 h7 E7
    go_wp2_with fail
    refine (HFI.out _ HB3.out).mono ?_
    rintro e w4 ⟨hb4, ⟨hne, rfl⟩ | ⟨x', m', _, hm', rfl⟩⟩
    · exact absurd (fnd_zero HW0.out HM.out) hne
    obtain ⟨rfl, rfl⟩ : x = x' ∧ m = m' := by
      have := HM.out
      rw [hm'] at this
      simp only [Option.some.injEq, Prod.mk.injEq] at this
      exact ⟨this.1.symm, this.2.symm⟩
    have HB4 := Lib.hid (bl_trans HB3.out hb4)
    have hs4 := HB4.out.size
    clear hb4 hm'
    unfold methV
    simp only [bareM, nilM, List.length_nil]
    rw [hst]
    clear hst
    cases st <;>
    · go_wp2_with fail
      go_ret
      exact ⟨by first | rfl | exact ret_bool (by simp), HB4.out.alloc hs4 _⟩
  · rw [errOf_ne h1]
    generalize hz1 : callErr l fr c n kd st = z1 at *
    by_cases h2 : callErr l fr c n kd (!st) = 0
    · obtain ⟨hw0, x, m, hm, hst, h7⟩ := HZ.out (!st) h2
      rw [h2, errOf_zero]
      have HM := Lib.hid hm
      have HW0 := Lib.hid hw0
      clear h1 hm hw0 h7 h2 hz1
      go_wp2_with fail
      refine (HFI.out _ HB3.out).mono ?_
      rintro e w4 ⟨hb4, ⟨hne, rfl⟩ | ⟨x', m', _, hm', rfl⟩⟩
      · exact absurd (fnd_zero HW0.out HM.out) hne
      obtain ⟨rfl, rfl⟩ : x = x' ∧ m = m' := by
        have := HM.out
        rw [hm'] at this
        simp only [Option.some.injEq, Prod.mk.injEq] at this
        exact ⟨this.1.symm, this.2.symm⟩
      have HB4 := Lib.hid (bl_trans HB3.out hb4)
      have hs4 := HB4.out.size
      clear hb4 hm'
      unfold methV
      simp only [bareM, nilM, List.length_nil]
      rw [hst]
      clear hst
      cases st <;>
      · go_wp2_with fail
        go_ret
        exact ⟨by first | rfl | exact ret_bool (by simp), HB4.out.alloc hs4 _⟩
    · rw [errOf_ne h2]
      generalize callErr l fr c n kd (!st) = z2 at *
      clear h1 h2 hz1
      go_wp2_with fail
      refine (HFI.out _ HB3.out).mono ?_
      rintro e w4 ⟨hb4, ⟨hne, rfl⟩ | ⟨x', m', _, hm', rfl⟩⟩
      · have HB4 := Lib.hid (bl_trans HB3.out hb4)
        have hs4 := HB4.out.size
        clear hb4 hne
        generalize fndErr l c n kd = z4 at *
        unfold methV
        go_wp2_with fail
        go_ret
        exact ⟨by first | rfl | exact ret_bool (by simp), HB4.out.alloc hs4 _⟩
      · have HB4 := Lib.hid (bl_trans HB3.out hb4)
        have hs4 := HB4.out.size
        clear hb4 hm'
        unfold methV
        simp only [bareM, nilM, List.length_nil]
        go_wp2_with fail
        go_ret
        exact ⟨by first | rfl | exact ret_bool (by simp), HB4.out.alloc hs4 _⟩

set_option maxRecDepth 100000 in
theorem rightFound.walk {H : Type} {enc : TypeId × Value → H} {W : World} {base : Nat}
    {v0 : Value} {d0 : DataW H} {p0 : List MemPlace} (hv0 : Value.okWide Tryd.prog W .any base 42 v0) (h0 : DataW.Trod enc Tryd.prog W 0 (fun _ => true) true 42 v0 d0 p0)
    (s1 : ByteArray) (hs1 : s1.size ≤ maxLen) (hr1 : s1.data.toList.length ≤ reachBytes)
    (s2 : ByteArray) (hs2 : s2.size ≤ maxLen) (hr2 : s2.data.toList.length ≤ reachBytes)
    (s3 : ByteArray) (hs3 : s3.size ≤ maxLen) (hr3 : s3.data.toList.length ≤ reachBytes)
    (s4 : ByteArray) (hs4 : s4.size ≤ maxLen) (hr4 : s4.data.toList.length ≤ reachBytes)
    (b5 : Bool)
    (W' : World) (hW : W' = W) (hL : laidMetH Tryd.prog Rows.rightFoundUptoRow.laid W) {S : Prop} (_ : S) (hbulk : Rows.uptoBulkAll [d0, DataW.lit (.string s1.data.toList), DataW.lit (.string s2.data.toList), DataW.lit (.string s3.data.toList), DataW.lit (.string s4.data.toList), DataW.lit (.bool b5)] ≤ 1048576) :
    Calls Tryd.prog 5 #[v0, .string s1, .string s2, .string s3, .string s4, .bool b5] W' fun e w' => e = .returned (.bool true) ∧ Below W'.heap.size W' w' := by
  subst hW
  obtain ⟨a0, len0, cap0, rfl⟩ := WideShapes.okWide_slice Tryd.underlying42 hv0
  obtain ⟨fuel0, hf0⟩ := h0
  obtain ⟨aa0, cc0, l0, ps0, hcs0, hC0, hll0, ht0⟩ := open_classes hf0
  simp only [Value.cells, List.cons.injEq, and_true] at hcs0
  rw [hcs0]
  obtain ⟨⟨x1⟩⟩ := s1
  obtain ⟨⟨x2⟩⟩ := s2
  obtain ⟨⟨x3⟩⟩ := s3
  obtain ⟨⟨x4⟩⟩ := s4
  simp only [Rows.uptoBulkAll, Rows.uptoBulk] at hbulk
  exact rightFound_go l0 ps0 aa0 cc0 x1 x2 x3 x4 b5 W' hC0 (forms_of_laid hL (by kernel_rfl)) (ht0 (by omega)) (by omega) (by omega) (by omega) (by omega) (by omega)
end Go.Proofs.YtpkhfcbkadkadaaDoor
