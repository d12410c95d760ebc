/-
  The walk of mtype.changed, whatever its function does: exact.
-/
import Derived.Test.YtkobgmacoakelaaDoorHand2
import Derived.Test.YtkobgmacoakelaaDoorPHand
import Derived.Test.YtkobgmacoakelaaDoorMake
import Derived.Test.YtkobgmacoakelaaDoorBase
namespace Go.Proofs.YtkobgmacoakelaaDoor
set_option linter.unusedVariables false
set_option linter.unusedSimpArgs false
open Go.RowKit Go.Shelf Go.Lib

def errH (n : Int) : Value := if n = 0 then .nilIface else errV n
theorem errH_zero : errH 0 = .nilIface := rfl
theorem errH_pos {n : Int} (h : n ≠ 0) : errH n = errV n := if_neg h

/-- what is made of the args -/
def FRes (w : World) (r : Int × List (List UInt8)) (e : Ending) (w' : World) : Prop :=
  Below w.heap.size w w' ∧ ((r.1 ≠ 0 ∧ ∃ x, e = .returned (.tuple #[x, errV r.1])) ∨ (r.1 = 0 ∧ ∃ a cap, e = .returned (.tuple #[.slice a r.2.length cap, .nilIface]) ∧ SRow w' a cap r.2))
def Exact (w : World) (r : Int × List UInt8) (e : Ending) (w' : World) : Prop := e = .returned (.tuple #[.string ⟨⟨r.2⟩⟩, errH r.1]) ∧ Below w.heap.size w w'

set_option maxRecDepth 100000 in
set_option maxHeartbeats 1000000 in
theorem ch_put (m : List UInt8) (hm : m.length ≤ 8388608) (lb : Array Value) (w : World) (r : List (List UInt8) → Int × List (List UInt8))
    (hty : ∀ A, (∀ t ∈ A, TypeOk t) → (r A).1 = 0 → ∀ t ∈ (r A).2, TypeOk t)
    (hf : ∀ A v W, (∀ t ∈ A, TypeOk t) → A.length ≤ 5 → Below w.heap.size w W → W.ownsRow w.heap.size 9 1 v A.length (A.map strV) → Calls Tryd.prog 31 (#[v] ++ lb) W (FRes w (r A))) :
    Calls Tryd.prog 30 #[.string ⟨⟨m⟩⟩, .func (.func 31) #[] lb] w (Exact w (chF m r)) := by
  have HF := Lib.hid hf
  have HTY := Lib.hid hty
  clear hf hty
  go_enter Tryd.func30, Tryd.ntmps30
  go_wp2_with fail
  refine (method_calls m hm _).mono ?_
  rintro e w1 ⟨hb1, ⟨rfl, hno⟩ | ⟨v, A, gv, rfl, hA, hown⟩⟩
  · have HC := Lib.hid (show chF m r = (1, []) by unfold chF; rw [methOf_none hno])
    clear hno
    go_wp2_with fail
    go_ret2
    exact ⟨by rw [HC.out]; rfl, hb1⟩
  · have HC := Lib.hid (show chF m r = if (r A).1 ≠ 0 then ((r A).1, []) else if 5 < (r A).2.length then (4, []) else (0, methT (r A).2 gv) by unfold chF; rw [methOf_some hA])
    have HFA := Lib.hid (HF.out A v w1 hA.2.1 hA.2.2.1 hb1 hown)
    have HTA := Lib.hid (HTY.out A hA.2.1)
    have HGV := Lib.hid hA.2.2.2
    clear hA hown hb1
    generalize r A = ra at *
    obtain ⟨n, L⟩ := ra
    go_wp2_with fail
    refine HFA.out.mono ?_
    rintro e w2 ⟨hb2, ⟨hn, x, rfl⟩ | ⟨hn, a, cap, rfl, hr⟩⟩
    · have HN := Lib.hid hn
      clear hn
      go_wp2_with fail
      go_ret2
      exact ⟨by rw [HC.out, if_pos HN.out]; simp only; rw [errH_pos HN.out]; rfl, hb2⟩
    · have HR := Lib.hid hr
      have HN := Lib.hid hn
      have HB2 := Lib.hid hb2
      clear hn hr hb2
      by_cases h5 : 5 < L.length
      · have HK := Lib.hid (fun w => make_full a L.length cap ⟨⟨gv⟩⟩ w h5)
        have HC2 := Lib.hid (show chF m r = (4, []) by rw [HC.out, if_neg (by simpa using HN.out), if_pos h5])
        clear h5
        go_wp2_with fail
        refine (HK.out _).mono ?_
        rintro e w3 ⟨rfl, rfl⟩
        go_wp2_with fail
        go_ret2
        exact ⟨by rw [HC2.out]; rfl, HB2.out⟩
      · have HK := Lib.hid (make_ok L a cap gv w2 HR.out (by omega) (HTA.out HN.out) HGV.out)
        have HC2 := Lib.hid (show chF m r = (0, methT L gv) by rw [HC.out, if_neg (by simpa using HN.out), if_neg h5])
        clear h5
        go_wp2_with fail
        refine HK.out.mono ?_
        rintro e w3 ⟨rfl, hb3⟩
        go_wp2_with fail
        go_ret2
        exact ⟨by rw [HC2.out]; rfl, bl_trans HB2.out hb3⟩
set_option maxRecDepth 100000 in
set_option maxHeartbeats 1000000 in
theorem ch_change (m : List UInt8) (hm : m.length ≤ 8388608) (lb : Array Value) (w : World) (r : List (List UInt8) → Int × List (List UInt8))
    (hty : ∀ A, (∀ t ∈ A, TypeOk t) → (r A).1 = 0 → ∀ t ∈ (r A).2, TypeOk t)
    (hf : ∀ A v W, (∀ t ∈ A, TypeOk t) → A.length ≤ 5 → Below w.heap.size w W → W.ownsRow w.heap.size 9 1 v A.length (A.map strV) → Calls Tryd.prog 38 (#[v] ++ lb) W (FRes w (r A))) :
    Calls Tryd.prog 30 #[.string ⟨⟨m⟩⟩, .func (.func 38) #[] lb] w (Exact w (chF m r)) := by
  have HF := Lib.hid hf
  have HTY := Lib.hid hty
  clear hf hty
  go_enter Tryd.func30, Tryd.ntmps30
  go_wp2_with fail
  refine (method_calls m hm _).mono ?_
  rintro e w1 ⟨hb1, ⟨rfl, hno⟩ | ⟨v, A, gv, rfl, hA, hown⟩⟩
  · have HC := Lib.hid (show chF m r = (1, []) by unfold chF; rw [methOf_none hno])
    clear hno
    go_wp2_with fail
    go_ret2
    exact ⟨by rw [HC.out]; rfl, hb1⟩
  · have HC := Lib.hid (show chF m r = if (r A).1 ≠ 0 then ((r A).1, []) else if 5 < (r A).2.length then (4, []) else (0, methT (r A).2 gv) by unfold chF; rw [methOf_some hA])
    have HFA := Lib.hid (HF.out A v w1 hA.2.1 hA.2.2.1 hb1 hown)
    have HTA := Lib.hid (HTY.out A hA.2.1)
    have HGV := Lib.hid hA.2.2.2
    clear hA hown hb1
    generalize r A = ra at *
    obtain ⟨n, L⟩ := ra
    go_wp2_with fail
    refine HFA.out.mono ?_
    rintro e w2 ⟨hb2, ⟨hn, x, rfl⟩ | ⟨hn, a, cap, rfl, hr⟩⟩
    · have HN := Lib.hid hn
      clear hn
      go_wp2_with fail
      go_ret2
      exact ⟨by rw [HC.out, if_pos HN.out]; simp only; rw [errH_pos HN.out]; rfl, hb2⟩
    · have HR := Lib.hid hr
      have HN := Lib.hid hn
      have HB2 := Lib.hid hb2
      clear hn hr hb2
      by_cases h5 : 5 < L.length
      · have HK := Lib.hid (fun w => make_full a L.length cap ⟨⟨gv⟩⟩ w h5)
        have HC2 := Lib.hid (show chF m r = (4, []) by rw [HC.out, if_neg (by simpa using HN.out), if_pos h5])
        clear h5
        go_wp2_with fail
        refine (HK.out _).mono ?_
        rintro e w3 ⟨rfl, rfl⟩
        go_wp2_with fail
        go_ret2
        exact ⟨by rw [HC2.out]; rfl, HB2.out⟩
      · have HK := Lib.hid (make_ok L a cap gv w2 HR.out (by omega) (HTA.out HN.out) HGV.out)
        have HC2 := Lib.hid (show chF m r = (0, methT L gv) by rw [HC.out, if_neg (by simpa using HN.out), if_neg h5])
        clear h5
        go_wp2_with fail
        refine HK.out.mono ?_
        rintro e w3 ⟨rfl, hb3⟩
        go_wp2_with fail
        go_ret2
        exact ⟨by rw [HC2.out]; rfl, bl_trans HB2.out hb3⟩
set_option maxRecDepth 100000 in
set_option maxHeartbeats 1000000 in
theorem ch_drop (m : List UInt8) (hm : m.length ≤ 8388608) (lb : Array Value) (w : World) (r : List (List UInt8) → Int × List (List UInt8))
    (hty : ∀ A, (∀ t ∈ A, TypeOk t) → (r A).1 = 0 → ∀ t ∈ (r A).2, TypeOk t)
    (hf : ∀ A v W, (∀ t ∈ A, TypeOk t) → A.length ≤ 5 → Below w.heap.size w W → W.ownsRow w.heap.size 9 1 v A.length (A.map strV) → Calls Tryd.prog 36 (#[v] ++ lb) W (FRes w (r A))) :
    Calls Tryd.prog 30 #[.string ⟨⟨m⟩⟩, .func (.func 36) #[] lb] w (Exact w (chF m r)) := by
  have HF := Lib.hid hf
  have HTY := Lib.hid hty
  clear hf hty
  go_enter Tryd.func30, Tryd.ntmps30
  go_wp2_with fail
  refine (method_calls m hm _).mono ?_
  rintro e w1 ⟨hb1, ⟨rfl, hno⟩ | ⟨v, A, gv, rfl, hA, hown⟩⟩
  · have HC := Lib.hid (show chF m r = (1, []) by unfold chF; rw [methOf_none hno])
    clear hno
    go_wp2_with fail
    go_ret2
    exact ⟨by rw [HC.out]; rfl, hb1⟩
  · have HC := Lib.hid (show chF m r = if (r A).1 ≠ 0 then ((r A).1, []) else if 5 < (r A).2.length then (4, []) else (0, methT (r A).2 gv) by unfold chF; rw [methOf_some hA])
    have HFA := Lib.hid (HF.out A v w1 hA.2.1 hA.2.2.1 hb1 hown)
    have HTA := Lib.hid (HTY.out A hA.2.1)
    have HGV := Lib.hid hA.2.2.2
    clear hA hown hb1
    generalize r A = ra at *
    obtain ⟨n, L⟩ := ra
    go_wp2_with fail
    refine HFA.out.mono ?_
    rintro e w2 ⟨hb2, ⟨hn, x, rfl⟩ | ⟨hn, a, cap, rfl, hr⟩⟩
    · have HN := Lib.hid hn
      clear hn
      go_wp2_with fail
      go_ret2
      exact ⟨by rw [HC.out, if_pos HN.out]; simp only; rw [errH_pos HN.out]; rfl, hb2⟩
    · have HR := Lib.hid hr
      have HN := Lib.hid hn
      have HB2 := Lib.hid hb2
      clear hn hr hb2
      by_cases h5 : 5 < L.length
      · have HK := Lib.hid (fun w => make_full a L.length cap ⟨⟨gv⟩⟩ w h5)
        have HC2 := Lib.hid (show chF m r = (4, []) by rw [HC.out, if_neg (by simpa using HN.out), if_pos h5])
        clear h5
        go_wp2_with fail
        refine (HK.out _).mono ?_
        rintro e w3 ⟨rfl, rfl⟩
        go_wp2_with fail
        go_ret2
        exact ⟨by rw [HC2.out]; rfl, HB2.out⟩
      · have HK := Lib.hid (make_ok L a cap gv w2 HR.out (by omega) (HTA.out HN.out) HGV.out)
        have HC2 := Lib.hid (show chF m r = (0, methT L gv) by rw [HC.out, if_neg (by simpa using HN.out), if_neg h5])
        clear h5
        go_wp2_with fail
        refine HK.out.mono ?_
        rintro e w3 ⟨rfl, hb3⟩
        go_wp2_with fail
        go_ret2
        exact ⟨by rw [HC2.out]; rfl, bl_trans HB2.out hb3⟩
set_option maxRecDepth 100000 in
set_option maxHeartbeats 1000000 in
theorem ch_perm (m : List UInt8) (hm : m.length ≤ 8388608) (lb : Array Value) (w : World) (r : List (List UInt8) → Int × List (List UInt8))
    (hty : ∀ A, (∀ t ∈ A, TypeOk t) → (r A).1 = 0 → ∀ t ∈ (r A).2, TypeOk t)
    (hf : ∀ A v W, (∀ t ∈ A, TypeOk t) → A.length ≤ 5 → Below w.heap.size w W → W.ownsRow w.heap.size 9 1 v A.length (A.map strV) → Calls Tryd.prog 34 (#[v] ++ lb) W (FRes w (r A))) :
    Calls Tryd.prog 30 #[.string ⟨⟨m⟩⟩, .func (.func 34) #[] lb] w (Exact w (chF m r)) := by
  have HF := Lib.hid hf
  have HTY := Lib.hid hty
  clear hf hty
  go_enter Tryd.func30, Tryd.ntmps30
  go_wp2_with fail
  refine (method_calls m hm _).mono ?_
  rintro e w1 ⟨hb1, ⟨rfl, hno⟩ | ⟨v, A, gv, rfl, hA, hown⟩⟩
  · have HC := Lib.hid (show chF m r = (1, []) by unfold chF; rw [methOf_none hno])
    clear hno
    go_wp2_with fail
    go_ret2
    exact ⟨by rw [HC.out]; rfl, hb1⟩
  · have HC := Lib.hid (show chF m r = if (r A).1 ≠ 0 then ((r A).1, []) else if 5 < (r A).2.length then (4, []) else (0, methT (r A).2 gv) by unfold chF; rw [methOf_some hA])
    have HFA := Lib.hid (HF.out A v w1 hA.2.1 hA.2.2.1 hb1 hown)
    have HTA := Lib.hid (HTY.out A hA.2.1)
    have HGV := Lib.hid hA.2.2.2
    clear hA hown hb1
    generalize r A = ra at *
    obtain ⟨n, L⟩ := ra
    go_wp2_with fail
    refine HFA.out.mono ?_
    rintro e w2 ⟨hb2, ⟨hn, x, rfl⟩ | ⟨hn, a, cap, rfl, hr⟩⟩
    · have HN := Lib.hid hn
      clear hn
      go_wp2_with fail
      go_ret2
      exact ⟨by rw [HC.out, if_pos HN.out]; simp only; rw [errH_pos HN.out]; rfl, hb2⟩
    · have HR := Lib.hid hr
      have HN := Lib.hid hn
      have HB2 := Lib.hid hb2
      clear hn hr hb2
      by_cases h5 : 5 < L.length
      · have HK := Lib.hid (fun w => make_full a L.length cap ⟨⟨gv⟩⟩ w h5)
        have HC2 := Lib.hid (show chF m r = (4, []) by rw [HC.out, if_neg (by simpa using HN.out), if_pos h5])
        clear h5
        go_wp2_with fail
        refine (HK.out _).mono ?_
        rintro e w3 ⟨rfl, rfl⟩
        go_wp2_with fail
        go_ret2
        exact ⟨by rw [HC2.out]; rfl, HB2.out⟩
      · have HK := Lib.hid (make_ok L a cap gv w2 HR.out (by omega) (HTA.out HN.out) HGV.out)
        have HC2 := Lib.hid (show chF m r = (0, methT L gv) by rw [HC.out, if_neg (by simpa using HN.out), if_neg h5])
        clear h5
        go_wp2_with fail
        refine HK.out.mono ?_
        rintro e w3 ⟨rfl, hb3⟩
        go_wp2_with fail
        go_ret2
        exact ⟨by rw [HC2.out]; rfl, bl_trans HB2.out hb3⟩
end Go.Proofs.YtkobgmacoakelaaDoor
