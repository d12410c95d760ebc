/-
  SubAll: the walks of sub.Is, sub.Fits and of the law.
-/
import Derived.Test.YtpkhfcbkadkadaaGreatDoorDoes1
import Derived.Test.YtpkhfcbkadkadaaGreatDoorRefIn
import Derived.Test.YtpkhfcbkadkadaaGreatDoorWorldL
import Derived.Test.YtpkhfcbkadkadaaGreatDoorTexts
import Derived.Test.YtpkhfcbkadkadaaGreatDoorFrame
namespace Go.Proofs.YtpkhfcbkadkadaaGreatDoor
set_option linter.unusedVariables false
set_option linter.unusedSimpArgs false
open Go.RowKit Go.Shelf Go.Lib

open Classical in
noncomputable def isErr2 (l : List ClassR) (n m : Nm) : Int := if withErr l n ≠ 0 then withErr l n else if (look (wl l) m).isSome = true then 0 else 3
def IsRes (err : Int) (r : Bool) (w : World) (e : Ending) (w' : World) : Prop :=
  Below w.heap.size w w' ∧ ((err ≠ 0 ∧ e = .returned (.tuple #[.bool false, errV err])) ∨ (err = 0 ∧ e = .returned (.tuple #[.bool r, .nilIface])))

set_option maxRecDepth 100000 in
set_option maxHeartbeats 1000000 in
theorem is_calls (l : List ClassR) (ps : List CAddr) (a : Option Addr) (cap : Nat) (n m : Nm) (w : World) (hC : ClassesAt w a cap l ps) (hF : FormsAt w) (hB : ClsOk l) (hn : n.length ≤ 1048576) (hm : m.length ≤ 1048576) :
    Calls Tryz.prog 16 #[.slice a l.length cap, .string ⟨⟨n⟩⟩, .string ⟨⟨m⟩⟩] w (IsRes (isErr2 l n m) ((every (wl l) n).contains m) w) := by
  have HR := Lib.hid (with_w l ps a cap n w hC hF hB hn)
  have hml : m.length ≤ maxLen := by unfold maxLen; omega
  clear hC hF hB
  go_enter Tryz.func16, Tryz.ntmps16
  go_wp2_with fail
  refine HR.out.mono ?_
  rintro e w2 ⟨hb2, ⟨hne, rfl⟩ | ⟨he0, _, b, rfl, hw⟩⟩
  · have HB2 := Lib.hid hb2
    have HEE := Lib.hid (show isErr2 l n m = withErr l n by unfold isErr2; rw [if_pos hne])
    have HNE := Lib.hid hne
    clear hb2
    generalize isErr2 l n m = q at *
    generalize withErr l n = z at *
    clear hne
    go_wp2_with fail
    go_ret2
    exact ⟨HB2.out, Or.inl ⟨by rw [HEE.out]; exact HNE.out, by rw [HEE.out]; rfl⟩⟩
  · have HB2 := Lib.hid hb2
    have hz := hb2.size
    have HW := Lib.hid hw
    have hlk := cur_look2 (n := m) hw.at_ hml
    have HEE := Lib.hid (show isErr2 l n m = if (look (wl l) m).isSome = true then 0 else 3 by unfold isErr2; rw [if_neg (by rw [he0]; simp)])
    have h50 := every_le50 hw.good n
    rw [hw.cl] at hlk
    unfold classV at hlk
    clear hb2 hw he0
    generalize isErr2 l n m = q at *
    cases hs : (look (wl l) m).isSome with
    | false =>
      rw [hs] at hlk HEE
      clear hs
      go_wp2_with fail
      go_ret2
      exact ⟨HB2.out.alloc hz _, Or.inl ⟨by rw [HEE.out]; simp, by rw [HEE.out]; rfl⟩⟩
    | true =>
      rw [hs] at hlk HEE
      clear hs
      have HEV := Lib.hid (fun o => every_w (HW.out.below ((Below.refl _ _).alloc (Nat.le_refl _) o)) n hn)
      generalize every (wl l) n = ev at *
      go_wp2_with fail
      refine (HEV.out _).mono ?_
      rintro e w3 ⟨⟨v, rfl, ho⟩, hb3⟩
      obtain ⟨A5, C5, rfl, hr5⟩ := srow_of_own ho
      have HS := Lib.hid (contains_str ev A5 ev.length C5 m w3 hr5 rfl (by omega))
      have HB3 := Lib.hid (bl_trans (HB2.out.alloc hz _) hb3)
      clear hb3 ho hr5
      generalize ev.contains m = cq at *
      go_wp2_with fail
      refine HS.out.mono ?_
      rintro e w4 ⟨rfl, rfl⟩
      go_wp2_with fail
      go_ret2
      exact ⟨HB3.out, Or.inr ⟨by rw [HEE.out]; simp, rfl⟩⟩

set_option maxRecDepth 100000 in
set_option maxHeartbeats 1000000 in
theorem fits_calls (l : List ClassR) (ps : List CAddr) (a : Option Addr) (cap : Nat) (s t : Nm) (w : World) (hC : ClassesAt w a cap l ps) (hF : FormsAt w) (hB : ClsOk l) (hs : s.length ≤ 8388608) (ht : t.length ≤ 8388608) (r : Bool)
    (hr : read2Err l s t = 0 → ∃ x y : Kd, s = x.text ∧ t = y.text ∧ x.Ok (wl l) ∧ y.Ok (wl l) ∧ doesK (wl l) x y = r) :
    Calls Tryz.prog 17 #[.slice a l.length cap, .string ⟨⟨s⟩⟩, .string ⟨⟨t⟩⟩] w (IsRes (read2Err l s t) r w) := by
  have HR := Lib.hid (read2_calls l ps a cap s t w hC hF hB hs ht)
  clear hC hF hB
  have HRR := Lib.hid hr
  clear hr
  go_enter Tryz.func17, Tryz.ntmps17
  go_wp2_with fail
  refine HR.out.mono ?_
  rintro e w2 ⟨hb2, ⟨hne, rfl⟩ | ⟨h0, b, rfl, hw⟩⟩
  · have HB2 := Lib.hid hb2
    have HNE := Lib.hid hne
    clear hb2
    generalize read2Err l s t = z at *
    clear hne
    go_wp2_with fail
    go_ret2
    exact ⟨HB2.out, Or.inl ⟨HNE.out, rfl⟩⟩
  · have HB2 := Lib.hid hb2
    have H0 := Lib.hid h0
    obtain ⟨x, y, rfl, rfl, hx, hy, rfl⟩ := HRR.out h0
    have HD := Lib.hid (does_calls l (wcp l ps) b hx hy w2 hw)
    unfold DoesAt at HD
    clear hb2 h0 hw hx hy
    generalize read2Err l x.text y.text = z at *
    generalize x.text = s at *
    generalize y.text = t at *
    generalize doesK (wl l) x y = r at *
    go_wp2_with fail
    refine HD.out.mono ?_
    rintro e w3 ⟨rfl, hb3⟩
    have HB3 := Lib.hid (bl_trans HB2.out hb3)
    clear hb3
    go_wp2_with fail
    go_ret2
    exact ⟨HB3.out, Or.inr ⟨H0.out, rfl⟩⟩

theorem isErr2_zero {l : List ClassR} {n m : Nm} : isErr2 l n m = 0 ↔ Good l ∧ n ∈ names l ∧ m ∈ names l := by
  unfold isErr2
  by_cases h : withErr l n = 0
  · rw [if_neg (by simp [h])]
    have hg := withErr_zero.1 h
    by_cases h2 : m ∈ names l
    · rw [if_pos (look_some.2 h2)]; exact ⟨fun _ => ⟨hg.1, hg.2, h2⟩, fun _ => rfl⟩
    · rw [if_neg (fun q => h2 (look_some.1 q))]; exact ⟨fun h => by omega, fun h => absurd h.2.2 h2⟩
  · rw [if_pos h]; exact ⟨fun h2 => absurd h2 h, fun h2 => absurd (withErr_zero.2 ⟨h2.1, h2.2.1⟩) h⟩

/-- a thing that is a right kind -/
theorem thing_kind {L : List ClassR} {x : Nm} (h : kindErr L (thing x) = 0) : (Kd.ty 0 (.cls x)).Ok L := by
  obtain ⟨k, hk, e⟩ := kind_zero.1 h
  have : (Kd.ty 0 (.cls x)).text = k.text := e
  rw [text_inj this]; exact hk

theorem fits_thing {l : List ClassR} (x y : Nm) : read2Err l (thing x) (thing y) = 0 → ∃ a b : Kd, thing x = a.text ∧ thing y = b.text ∧ a.Ok (wl l) ∧ b.Ok (wl l) ∧ doesK (wl l) a b = (decide (x = y) || (every (wl l) x).contains y) := by
  intro h
  obtain ⟨_, h1, h2⟩ := read2_zero.1 h
  exact ⟨.ty 0 (.cls x), .ty 0 (.cls y), rfl, rfl, thing_kind h1, thing_kind h2, does_thing _ _ _⟩
theorem every_self {l : List ClassR} (hg : Good l) (n : Nm) : n ∈ every (wl l) n := (good_every hg n n).2 .refl
/-- all that is something is Object -/
theorem every_obj {l : List ClassR} (hg : Good l) {n : Nm} (hn : n ∈ names l) : objN ∈ every (wl l) n := (good_every hg n objN).2 (line_obj hg hn).rc

set_option maxRecDepth 100000 in
set_option maxHeartbeats 4000000 in
theorem subAll_go (l : List ClassR) (ps : List CAddr) (a : Option Addr) (cap : Nat) (n m : Nm) (w : World) (hC : ClassesAt w a cap l ps) (hF : FormsAt w) (hB : ClsOk l) (hll : l.length ≤ 1048576) (hn : n.length ≤ 1048576) (hm : m.length ≤ 1048576) :
    Calls Tryz.prog 5 #[.slice a l.length cap, .string ⟨⟨n⟩⟩, .string ⟨⟨m⟩⟩] w fun e w' => e = .returned (.bool true) ∧ Below w.heap.size w w' := by
  have HC := Lib.hid hC
  have HF := Lib.hid hF
  have HB := Lib.hid hB
  clear hC hF hB
  have HAL := Lib.hid (fun W (hW : Below w.heap.size w W) => all_calls l ps a cap n W (HC.out.below hW) (HF.out.below hW) HB.out hn)
  have HIS := Lib.hid (fun W (hW : Below w.heap.size w W) => is_calls l ps a cap n m W (HC.out.below hW) (HF.out.below hW) HB.out hn hm)
  have HFT := Lib.hid (fun W (hW : Below w.heap.size w W) => fits_calls l ps a cap (thing n) (thing m) W (HC.out.below hW) (HF.out.below hW) HB.out (by simp [thing]; omega) (by simp [thing]; omega) _ (fits_thing n m))
  have HZ := Lib.hid (@isErr2_zero l n m)
  generalize hq1 : read2Err l (thing n) (thing m) = q1 at *
  clear hq1
  simp only [thing] at HFT
  go_enter Tryz.func5, Tryz.ntmps5
  go_wp2_with fail
  refine (named_true _).mono ?_
  rintro e w1 ⟨rfl, hb1⟩
  have HB1 := Lib.hid hb1
  clear hb1
  go_wp2_with fail
  refine (HAL.out _ HB1.out).mono ?_
  intro e w2 hr
  obtain ⟨hb2, v2, ev2, rfl, hv2⟩ := list_open hr
  have HB2 := Lib.hid (bl_trans HB1.out hb2)
  have HV2 := Lib.hid hv2
  clear hr hb2 hv2
  go_wp2_with fail
  refine (HIS.out _ HB2.out).mono ?_
  rintro e w3 ⟨hb3, ⟨hne, rfl⟩ | ⟨h0, rfl⟩⟩
  · have HB3 := Lib.hid (bl_trans HB2.out hb3)
    clear hb3
    generalize isErr2 l n m = q2 at *
    generalize (decide (n = m) || (every (wl l) n).contains m) = r at *
    rcases HV2.out with ⟨_, rfl, rfl⟩ | ⟨_, rfl, _, _, rfl, _⟩
    · generalize withErr l n = q3 at *
      clear hne
      go_wp2_with fail
      refine (HFT.out _ HB3.out).mono ?_
      rintro e w4 ⟨hb4, ⟨hne4, rfl⟩ | ⟨h4, rfl⟩⟩
      all_goals
        have HB4 := Lib.hid (bl_trans HB3.out hb4)
        clear hb4
        first | clear hne4 | clear h4
        go_wp2_with fail
        go_ret
        exact ⟨rfl, HB4.out⟩
    · clear hne
      go_wp2_with fail
      refine (HFT.out _ HB3.out).mono ?_
      rintro e w4 ⟨hb4, ⟨hne4, rfl⟩ | ⟨h4, rfl⟩⟩
      all_goals
        have HB4 := Lib.hid (bl_trans HB3.out hb4)
        clear hb4
        first | clear hne4 | clear h4
        go_wp2_with fail
        go_ret
        exact ⟨rfl, HB4.out⟩
  · have HB3 := Lib.hid (bl_trans HB2.out hb3)
    obtain ⟨hg, hnn, hmm⟩ := HZ.out.1 h0
    have hw0 : withErr l n = 0 := withErr_zero.2 ⟨hg, hnn⟩
    have HOB := Lib.hid (show (m == objN) = true → (every (wl l) n).contains m = true from fun e => by rw [eq_of_beq e, List.contains_iff_mem]; exact every_obj hg hnn)
    have hfr : (decide (n = m) || (every (wl l) n).contains m) = (every (wl l) n).contains m := by
      by_cases e : n = m
      · subst e
        have : (every (wl l) n).contains n = true := by rw [List.contains_iff_mem]; exact every_self hg n
        rw [this]; simp
      · simp [e]
    rw [hfr] at HFT
    have h50 := every_le50 hg n
    rcases HV2.out with ⟨hne, _, _⟩ | ⟨_, rfl, a2, c2, rfl, hs2⟩
    · exact absurd hw0 hne
    have HIN := Lib.hid (fun W (hW : Below w3.heap.size w3 W) => ref_in (every (wl l) n) m a2 c2 W ((hs2.below hb3).below hW) (by omega))
    clear hb3 h0 hg hnn hmm hw0 hfr hs2 HV2 HZ HIS HAL
    generalize every (wl l) n = ev at *
    generalize ev.contains m = cq at *
    go_wp2_with fail
    refine (HFT.out _ HB3.out).mono ?_
    rintro e w4 ⟨hb4, ⟨hne4, rfl⟩ | ⟨h4, rfl⟩⟩
    · have HB4 := Lib.hid (bl_trans HB3.out hb4)
      have HI4 := Lib.hid (HIN.out w4 hb4)
      clear hb4 hne4
      go_wp2_with fail
      refine HI4.out.mono ?_
      rintro e w5 ⟨rfl, rfl⟩
      cases cq <;>
      · go_wp2_with fail
        go_ret
        exact ⟨by first | rfl | exact ret_bool (by simp), HB4.out⟩
    · have HB4 := Lib.hid (bl_trans HB3.out hb4)
      have HI4 := Lib.hid (HIN.out w4 hb4)
      clear hb4 h4
      cases cq with
      | true =>
        go_wp2_with fail
        refine HI4.out.mono ?_
        rintro e w5 ⟨rfl, rfl⟩
        go_wp2_with fail
        go_ret
        exact ⟨by first | rfl | exact ret_bool (by simp), HB4.out⟩
      | false =>
        have hmo : (m == [79, 98, 106, 101, 99, 116]) = false := by
          cases hh : m == [79, 98, 106, 101, 99, 116] with
          | false => rfl
          | true => exact absurd (HOB.out hh) (by simp)
        go_wp2_with fail
        refine HI4.out.mono ?_
        rintro e w5 ⟨rfl, rfl⟩
        go_wp2_with fail
        go_ret
        exact ⟨by first | rfl | exact ret_bool (by simp), HB4.out⟩

set_option maxRecDepth 100000 in
theorem subAll.walk {H : Type} {enc : TypeId × Value → H} {W : World} {base : Nat}
    {v0 : Value} {d0 : DataW H} {p0 : List MemPlace} (hv0 : Value.okWide Tryz.prog W .any base 22 v0) (h0 : DataW.Trod enc Tryz.prog W 0 (fun _ => true) true 22 v0 d0 p0)
    (s1 : ByteArray) (hs1 : s1.size ≤ maxLen) (hr1 : s1.data.toList.length ≤ reachBytes)
    (s2 : ByteArray) (hs2 : s2.size ≤ maxLen) (hr2 : s2.data.toList.length ≤ reachBytes)
    (W' : World) (hW : W' = W) (hL : laidMetH Tryz.prog Rows.subAllUptoRow.laid W) {S : Prop} (_ : S) (hbulk : Rows.uptoBulkAll [d0, DataW.lit (.string s1.data.toList), DataW.lit (.string s2.data.toList)] ≤ 1048576) :
    Calls Tryz.prog 5 #[v0, .string s1, .string s2] W' fun e w' => e = .returned (.bool true) ∧ Below W'.heap.size W' w' := by
  subst hW
  obtain ⟨a0, len0, cap0, rfl⟩ := WideShapes.okWide_slice Tryz.underlying22 hv0
  obtain ⟨fuel0, hf0⟩ := h0
  obtain ⟨aa0, cc0, l0, ps0, hcs0, hC0, hll0, ht0⟩ := open_classes hf0
  simp only [Value.cells, List.cons.injEq, and_true] at hcs0
  rw [hcs0]
  obtain ⟨⟨x1⟩⟩ := s1
  obtain ⟨⟨x2⟩⟩ := s2
  simp only [Rows.uptoBulkAll, Rows.uptoBulk] at hbulk
  exact subAll_go l0 ps0 aa0 cc0 x1 x2 W' hC0 (forms_of_laid hL (by kernel_rfl)) (ht0 (by omega)) (by omega) (by omega) (by omega)
end Go.Proofs.YtpkhfcbkadkadaaGreatDoor
