/-
  VtabSame: the walk of the law.
-/
import Derived.Test.YtpkhfcbkadkadaaGreatDoorVtab2
import Derived.Test.YtpkhfcbkadkadaaGreatDoorWorldS
import Derived.Test.YtpkhfcbkadkadaaGreatDoorRefIn
import Derived.Test.YtpkhfcbkadkadaaGreatDoorTexts
import Derived.Test.YtpkhfcbkadkadaaGreatDoorFrame
import Derived.Deep.QuietTactic
import Derived.BigQuiet
namespace Go.Proofs.YtpkhfcbkadkadaaGreatDoor
set_option linter.unusedVariables false
set_option linter.unusedSimpArgs false
open Go.RowKit Go.Shelf Go.Lib

/-- Table's pair: what it holds -/
def TabV (err : Int) (S : List SlotR) (W : World) (v ev : Value) : Prop := (err ≠ 0 ∧ v = .slice none 0 0 ∧ ev = errV err) ∨ (err = 0 ∧ ev = .nilIface ∧ ∃ a cap, v = .slice a S.length cap ∧ SlotsAt W a cap S)
theorem TabV.below {err : Int} {S : List SlotR} {W W' : World} {v ev : Value} (h : TabV err S W v ev) (hb : Below W.heap.size W W') : TabV err S W' v ev := by
  rcases h with h | ⟨h0, h1, a, c, h2, h3⟩
  · exact Or.inl h
  · exact Or.inr ⟨h0, h1, a, c, h2, h3.below hb⟩
theorem tab_open {err : Int} {S : List SlotR} {w w' : World} {e : Ending} (h : TabRes err S w e w') : Below w.heap.size w w' ∧ ∃ v ev, e = .returned (.tuple #[v, ev]) ∧ TabV err S w' v ev := by
  obtain ⟨hb, ⟨h0, rfl⟩ | ⟨h0, a, c, rfl, hs⟩⟩ := h
  · exact ⟨hb, _, _, rfl, Or.inl ⟨h0, rfl, rfl⟩⟩
  · exact ⟨hb, _, _, rfl, Or.inr ⟨h0, rfl, a, c, rfl, hs⟩⟩

theorem fold_len (c : Nm) : ∀ (ms : List MethR) (out : List SlotR), (ms.foldl (stepS c) out).length ≤ out.length + ms.length
  | [], out => by simp
  | m :: r, out => by
    have := fold_len c r (stepS c out m)
    have := stepS_len c out m
    simp only [List.foldl_cons, List.length_cons]
    omega
theorem addS_len {l : List ClassR} (hg : Good l) (out : List SlotR) (c : Nm) : (addS (wl l) out c).length ≤ out.length + 8 := by
  have h := fold_len c (methsAt (wl l) c) out
  have h2 : (methsAt (wl l) c).length ≤ 8 := by
    unfold methsAt
    cases hl : look (wl l) c with
    | none => simp
    | some d => exact (good_cls hg (find_name hl).2).2.2.2.2
  unfold addS
  omega
theorem slots_len {l : List ClassR} (hg : Good l) : ∀ (cs : List Nm) (out : List SlotR), (cs.foldl (addS (wl l)) out).length ≤ out.length + 8 * cs.length
  | [], out => by simp
  | c :: r, out => by
    have := slots_len hg r (addS (wl l) out c)
    have := addS_len hg out c
    simp only [List.foldl_cons, List.length_cons]
    omega

set_option maxRecDepth 100000 in
set_option maxHeartbeats 4000000 in
theorem vtabSame_go (l : List ClassR) (ps : List CAddr) (a : Option Addr) (cap : Nat) (c d : Nm) (i : Int) (w : World) (hC : ClassesAt w a cap l ps) (hF : FormsAt w) (hB : ClsOk l) (hll : l.length ≤ 1048576) (hc : c.length ≤ 1048576) (hd : d.length ≤ 1048576) :
    Calls Tryz.prog 3 #[.slice a l.length cap, .string ⟨⟨c⟩⟩, .string ⟨⟨d⟩⟩, .int .i64 i] w fun e w' => e = .returned (.bool true) ∧ Below w.heap.size w w' := by
  have HC := Lib.hid hC
  have HF := Lib.hid hF
  have HB := Lib.hid hB
  clear hC hF hB
  have HT := Lib.hid (fun n (hn : n.length ≤ 1048576) W (hW : Below w.heap.size w W) => table_calls l ps a cap n W (HC.out.below hW) (HF.out.below hW) HB.out hn)
  have HSU := Lib.hid (fun W (hW : Below w.heap.size w W) => supers_calls l ps a cap d W (HC.out.below hW) (HF.out.below hW) HB.out hd)
  go_enter Tryz.func3, Tryz.ntmps3
  go_wp2_with fail
  refine (named_true _).mono ?_
  rintro e w1 ⟨rfl, hb1⟩
  have HB1 := Lib.hid hb1
  clear hb1
  go_wp2_with fail
  refine (HT.out c hc _ HB1.out).mono ?_
  intro e w2 hr
  obtain ⟨hb2, v2, ev2, rfl, hv2⟩ := tab_open hr
  have HB2 := Lib.hid (bl_trans HB1.out hb2)
  have HV2 := Lib.hid hv2
  clear hr hb2 hv2
  go_wp2_with fail
  refine (HT.out d hd _ HB2.out).mono ?_
  intro e w3 hr
  obtain ⟨hb3, v3, ev3, rfl, hv3⟩ := tab_open hr
  have HB3 := Lib.hid (bl_trans HB2.out hb3)
  have HV23 := Lib.hid (HV2.out.below hb3)
  have HV3 := Lib.hid hv3
  clear hr hb3 hv3 HV2
  go_wp2_with fail
  refine (HSU.out _ HB3.out).mono ?_
  intro e w4 hr
  obtain ⟨hb4, v4, ev4, rfl, hv4⟩ := list_open hr
  have HB4 := Lib.hid (bl_trans HB3.out hb4)
  have hv2 := HV23.out.below hb4
  have hv3 := HV3.out.below hb4
  clear hr hb4 HV3 HV23
  rcases hv2 with ⟨hne, rfl, rfl⟩ | ⟨h0, rfl, a2, c2, rfl, hs2⟩
  · generalize withErr l c = z at *
    clear hne
    go_wp2_with fail
    go_ret
    exact ⟨rfl, HB4.out⟩
  rcases hv3 with ⟨hne, rfl, rfl⟩ | ⟨h0', rfl, a3, c3, rfl, hs3⟩
  · generalize withErr l d = z at *
    clear hne
    go_wp2_with fail
    go_ret
    exact ⟨rfl, HB4.out⟩
  rcases hv4 with ⟨hne, _, _⟩ | ⟨_, rfl, a4, c4, rfl, hs4⟩
  · exact absurd h0' hne
  have HG := Lib.hid (withErr_zero.1 h0').1
  have HKE := Lib.hid (fun (h : c ∈ line (wl l) d) => slots_keep HG.out h)
  have hl13 := line_len13 HG.out d
  clear h0 h0'
  have hlS : (slotsM (wl l) c).length ≤ 1000000 := by
    have h1 := slots_len HG.out (line (wl l) c).reverse []
    have h2 := line_len13 HG.out c
    rw [List.length_reverse] at h1
    unfold slotsM
    simp only [List.length_nil] at h1
    omega
  generalize slotsM (wl l) c = S at *
  generalize slotsM (wl l) d = T at *
  have HR4 := Lib.hid (ref_in (line (wl l) d) c a4 c4 w4 hs4 (by omega))
  have HS2 := Lib.hid hs2
  have HS3 := Lib.hid hs3
  have HCI := Lib.hid (show (line (wl l) d).contains c = true → c ∈ line (wl l) d from fun h => by simpa using h)
  clear hs2 hs3 hs4
  generalize line (wl l) d = ln at *
  by_cases h0 : S.length = 0
  · have hnil : S = [] := List.eq_nil_of_length_eq_zero h0
    rw [h0]
    go_wp2_with fail
    go_ret
    exact ⟨rfl, HB4.out⟩
  have hne : ¬ S = [] := by intro h; rw [h] at h0; simp at h0
  cases hct : ln.contains c with
  | false =>
    rw [hct] at HR4
    clear hct
    go_wp2_with fail
    refine HR4.out.mono ?_
    rintro e w5 ⟨rfl, rfl⟩
    go_wp2_with fail
    go_ret
    exact ⟨rfl, HB4.out⟩
  | true =>
    rw [hct] at HR4
    have HK := Lib.hid (HKE.out (HCI.out hct))
    clear hct HKE HCI
    obtain ⟨k, hk, ek⟩ := turn_at i S.length (by omega) (by omega)
    have hu1 : IntKind.u64.wrap (S.length : Int) = (S.length : Int) := by rw [IntKind.wrap_u64]; omega
    rw [hu1] at ek
    have ek2 : IntKind.i64.wrap (k : Int) = (k : Int) := IntWalk.i64_in _ (by omega)
    obtain ⟨x, hx⟩ : ∃ x, S[k]? = some x := ⟨_, List.getElem?_eq_getElem hk⟩
    obtain ⟨y, hy, hyn, hyt⟩ := HK.out k x hx
    obtain ⟨b2, o2, rfl, hlt2, d0, d1, d2⟩ := HS2.out.cells hx
    obtain ⟨b3, o3, rfl, hlt3, e0, e1, e2⟩ := HS3.out.cells hy
    rw [hyn] at e0
    rw [hyt] at e1
    have hkT : k < T.length := (List.getElem?_eq_some_iff.1 hy).1
    have hk0 : (0 : Int) ≤ (k : Int) := Int.natCast_nonneg _
    have hk1 : (k : Int) < (S.length : Int) := by omega
    have hk2 : (k : Int) < (T.length : Int) := by omega
    clear hx hy hyn hyt
    go_wp2_with fail
    refine HR4.out.mono ?_
    rintro e w5 ⟨rfl, rfl⟩
    go_wp2_with fail
    go_quiet (fail)
    go_wp2_with fail
    go_ret
    exact ⟨rfl, HB4.out.trans (below_dn (Below.refl _ _) _ |>.mono HB4.out.size)⟩

set_option maxRecDepth 100000 in
theorem vtabSame.walk {H : Type} {enc : TypeId × Value → H} {W : World} {base : Nat}
    {v0 : Value} {d0 : DataW H} {p0 : List MemPlace} (hv0 : Value.okWide Tryz.prog W .any base 22 v0) (h0 : DataW.Trod enc Tryz.prog W 0 (fun _ => true) true 22 v0 d0 p0)
    (s1 : ByteArray) (hs1 : s1.size ≤ maxLen) (hr1 : s1.data.toList.length ≤ reachBytes)
    (s2 : ByteArray) (hs2 : s2.size ≤ maxLen) (hr2 : s2.data.toList.length ≤ reachBytes)
    (n3 : Int) (_ : (Lit.int .i64 n3).wf = true)
    (W' : World) (hW : W' = W) (hL : laidMetH Tryz.prog Rows.vtabSameUptoRow.laid W) {S : Prop} (_ : S) (hbulk : Rows.uptoBulkAll [d0, DataW.lit (.string s1.data.toList), DataW.lit (.string s2.data.toList), DataW.lit (.int .i64 n3)] ≤ 1048576) :
    Calls Tryz.prog 3 #[v0, .string s1, .string s2, .int .i64 n3] W' fun e w' => e = .returned (.bool true) ∧ Below W'.heap.size W' w' := by
  subst hW
  obtain ⟨a0, len0, cap0, rfl⟩ := WideShapes.okWide_slice Tryz.underlying22 hv0
  obtain ⟨fuel0, hf0⟩ := h0
  obtain ⟨aa0, cc0, l0, ps0, hcs0, hC0, hll0, ht0⟩ := open_classes hf0
  simp only [Value.cells, List.cons.injEq, and_true] at hcs0
  rw [hcs0]
  obtain ⟨⟨x1⟩⟩ := s1
  obtain ⟨⟨x2⟩⟩ := s2
  simp only [Rows.uptoBulkAll, Rows.uptoBulk] at hbulk
  exact vtabSame_go l0 ps0 aa0 cc0 x1 x2 n3 W' hC0 (forms_of_laid hL (by kernel_rfl)) (ht0 (by omega)) (by omega) (by omega) (by omega)
end Go.Proofs.YtpkhfcbkadkadaaGreatDoor
