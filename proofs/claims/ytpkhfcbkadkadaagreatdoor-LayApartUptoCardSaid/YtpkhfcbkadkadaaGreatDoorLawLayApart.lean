/-
  LayApart: the walk of the law.
-/
import Derived.Test.YtpkhfcbkadkadaaGreatDoorLay3
import Derived.Test.YtpkhfcbkadkadaaGreatDoorTexts
import Derived.Test.YtpkhfcbkadkadaaGreatDoorFrame
namespace Go.Proofs.YtpkhfcbkadkadaaGreatDoor
set_option linter.unusedVariables false
set_option linter.unusedSimpArgs false
open Go.RowKit Go.Shelf Go.Lib

theorem place_parts {l : List ClassR} {c n : Nm} {i : Nat} (h : placeF (wl l) c n = some i) : ∃ x f y, fieldOf (wl l) c n = some (x, f) ∧ (slotsF (wl l) c)[i]? = some y ∧ y.2.nm = n ∧ y.2.ty = f.ty := by
  cases hf : fieldOf (wl l) c n with
  | none => rw [placeF_none hf] at h; cases h
  | some xf =>
    obtain ⟨j, y, h1, h2, h3, h4⟩ := placeF_at hf
    rw [h] at h1
    cases h1
    exact ⟨xf.1, xf.2, y, rfl, h2, h3, h4⟩

set_option maxRecDepth 100000 in
set_option maxHeartbeats 4000000 in
theorem layApart_go (l : List ClassR) (ps : List CAddr) (a : Option Addr) (cap : Nat) (c n m : Nm) (w : World) (hC : ClassesAt w a cap l ps) (hF : FormsAt w) (hB : ClsOk l) (hll : l.length ≤ 1048576) (hc : c.length ≤ 1048576) (hn : n.length ≤ 1048576) (hm : m.length ≤ 1048576) :
    Calls Tryz.prog 6 #[.slice a l.length cap, .string ⟨⟨c⟩⟩, .string ⟨⟨n⟩⟩, .string ⟨⟨m⟩⟩] w fun e w' => e = .returned (.bool true) ∧ Below w.heap.size w w' := by
  have HC := Lib.hid hC
  have HF := Lib.hid hF
  have HB := Lib.hid hB
  clear hC hF hB
  have HPL := Lib.hid (fun n W (hW : Below w.heap.size w W) => place_calls l ps a cap c n W (HC.out.below hW) (HF.out.below hW) HB.out hc)
  have HFS := Lib.hid (fun W (hW : Below w.heap.size w W) => lfields_calls l ps a cap c W (HC.out.below hW) (HF.out.below hW) HB.out hc)
  have HFI := Lib.hid (fun W (hW : Below w.heap.size w W) => field_calls_find l ps a cap c n W (HC.out.below hW) (HF.out.below hW) HB.out hc)
  go_enter Tryz.func6, Tryz.ntmps6
  go_wp2_with fail
  refine (named_true _).mono ?_
  rintro e w1 ⟨rfl, hb1⟩
  have HB1 := Lib.hid hb1
  clear hb1
  go_wp2_with fail
  refine (HPL.out n _ HB1.out).mono ?_
  rintro e w2 ⟨hb2, v2, ev2, rfl, hv2⟩
  have HB2 := Lib.hid (bl_trans HB1.out hb2)
  have HV2 := Lib.hid hv2
  clear hb2 hv2
  go_wp2_with fail
  refine (HPL.out m _ HB2.out).mono ?_
  rintro e w3 ⟨hb3, v3, ev3, rfl, hv3⟩
  have HB3 := Lib.hid (bl_trans HB2.out hb3)
  have HV3 := Lib.hid hv3
  clear hb3 hv3
  go_wp2_with fail
  refine (HFS.out _ HB3.out).mono ?_
  intro e w4 hr
  obtain ⟨hb4, v4, ev4, rfl, hv4⟩ := list_open hr
  have HB4 := Lib.hid (bl_trans HB3.out hb4)
  have HV4 := Lib.hid hv4
  clear hr hb4 hv4
  rcases HV2.out with ⟨z, hz, rfl, rfl⟩ | ⟨h0, rfl, i, hi, hil, rfl⟩
  · clear hz
    go_wp2_with fail
    go_ret
    exact ⟨rfl, HB4.out⟩
  rcases HV3.out with ⟨z, hz, rfl, rfl⟩ | ⟨_, rfl, j, hj, hjl, rfl⟩
  · clear hz
    go_wp2_with fail
    go_ret
    exact ⟨rfl, HB4.out⟩
  rcases HV4.out with ⟨hne, _, _⟩ | ⟨_, rfl, a4, c4, rfl, hs4⟩
  · exact absurd h0 hne
  obtain ⟨xc, f, y, hfo, hy, hyn, hyt⟩ := place_parts hi
  obtain ⟨_, _, y', _, hy', hyn', _⟩ := place_parts hj
  have HFO := Lib.hid hfo
  have H0 := Lib.hid h0
  have HNE := Lib.hid (show n ≠ m → i ≠ j by
    intro hne e
    subst e
    rw [hy] at hy'
    cases hy'
    exact hne (by rw [← hyn, hyn']))
  have hty : (typesF (wl l) c)[i]? = some f.ty := by unfold typesF; rw [List.getElem?_map, hy, Option.map_some, hyt]
  have hlen : (typesF (wl l) c).length = (slotsF (wl l) c).length := by unfold typesF; rw [List.length_map]
  have HS4 := Lib.hid hs4
  have HTY := Lib.hid hty
  rw [← hlen] at hil hjl
  clear hi hj h0 hfo hy hyn hyt hy' hyn' hty hlen hs4 HV2 HV3 HV4
  generalize typesF (wl l) c = T at *
  have hi0 : (0 : Int) ≤ (i : Int) := Int.natCast_nonneg _
  have hj0 : (0 : Int) ≤ (j : Int) := Int.natCast_nonneg _
  have hi1 : (i : Int) < (T.length : Int) := by omega
  have hj1 : (j : Int) < (T.length : Int) := by omega
  go_wp2_with fail
  refine (HFI.out _ HB4.out).mono ?_
  rintro e w5 ⟨hb5, ⟨hne, rfl⟩ | ⟨x', f', _, hf', rfl⟩⟩
  · exact absurd (fld_zero H0.out HFO.out) hne
  obtain ⟨rfl, rfl⟩ : xc = x' ∧ f = f' := by
    have := HFO.out
    rw [hf'] at this
    simp only [Option.some.injEq, Prod.mk.injEq] at this
    exact ⟨this.1.symm, this.2.symm⟩
  have HB5 := Lib.hid (bl_trans HB4.out hb5)
  have hs5 := HB5.out.size
  obtain ⟨b4, o4, rfl, hlt4, d0⟩ := strs_cell (HS4.out.below hb5) HTY.out
  clear hb5 hf'
  unfold fieldV
  cases hnm : n == m with
  | true =>
    have e := eq_of_beq hnm
    clear hnm HNE
    subst e
    go_wp2_with fail
    go_quiet (fail)
    go_wp2_with fail
    go_ret
    exact ⟨rfl, below_dn (HB5.out.alloc hs5 _) _⟩
  | false =>
    have hij := HNE.out (by intro q; rw [q] at hnm; simp at hnm)
    have hij2 : ((i : Int) != (j : Int)) = true := by rw [bne_iff_ne]; omega
    have hij3 : (i == j) = false := by rw [beq_eq_false_iff_ne]; exact hij
    go_wp2_with fail
    go_quiet (fail)
    go_wp2_with fail
    go_ret
    exact ⟨rfl, below_dn (HB5.out.alloc hs5 _) _⟩

set_option maxRecDepth 100000 in
theorem layApart.walk {H : Type} {enc : TypeId × Value → H} {W : World} {base : Nat}
    {v0 : Value} {d0 : DataW H} {p0 : List MemPlace} (hv0 : Value.okWide Tryz.prog W .any base 22 v0) (h0 : DataW.Trod enc Tryz.prog W 0 (fun _ => true) true 22 v0 d0 p0)
    (s1 : ByteArray) (hs1 : s1.size ≤ maxLen) (hr1 : s1.data.toList.length ≤ reachBytes)
    (s2 : ByteArray) (hs2 : s2.size ≤ maxLen) (hr2 : s2.data.toList.length ≤ reachBytes)
    (s3 : ByteArray) (hs3 : s3.size ≤ maxLen) (hr3 : s3.data.toList.length ≤ reachBytes)
    (W' : World) (hW : W' = W) (hL : laidMetH Tryz.prog Rows.layApartUptoRow.laid W) {S : Prop} (_ : S) (hbulk : Rows.uptoBulkAll [d0, DataW.lit (.string s1.data.toList), DataW.lit (.string s2.data.toList), DataW.lit (.string s3.data.toList)] ≤ 1048576) :
    Calls Tryz.prog 6 #[v0, .string s1, .string s2, .string s3] W' fun e w' => e = .returned (.bool true) ∧ Below W'.heap.size W' w' := by
  subst hW
  obtain ⟨a0, len0, cap0, rfl⟩ := WideShapes.okWide_slice Tryz.underlying22 hv0
  obtain ⟨fuel0, hf0⟩ := h0
  obtain ⟨aa0, cc0, l0, ps0, hcs0, hC0, hll0, ht0⟩ := open_classes hf0
  simp only [Value.cells, List.cons.injEq, and_true] at hcs0
  rw [hcs0]
  obtain ⟨⟨x1⟩⟩ := s1
  obtain ⟨⟨x2⟩⟩ := s2
  obtain ⟨⟨x3⟩⟩ := s3
  simp only [Rows.uptoBulkAll, Rows.uptoBulk] at hbulk
  exact layApart_go l0 ps0 aa0 cc0 x1 x2 x3 W' hC0 (forms_of_laid hL (by kernel_rfl)) (ht0 (by omega)) (by omega) (by omega) (by omega) (by omega)
end Go.Proofs.YtpkhfcbkadkadaaGreatDoor
