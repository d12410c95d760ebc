/-
  WorldRound: the walk of the law.
-/
import Derived.Test.YtokomofjcnefaaaDoorTexts
import Derived.Test.YtokomofjcnefaaaDoorFrame
namespace Go.Proofs.YtokomofjcnefaaaDoor
set_option linter.unusedVariables false
set_option linter.unusedSimpArgs false
open Go.RowKit Go.Shelf Go.Lib

theorem turn_w (a : Int) (n : Nat) (h0 : 0 < n) (h1 : n ≤ 9223372036854775807) : ∃ k : Nat, k < n ∧ wrap64 ((IntKind.u64.wrap a).tmod ↑n) = (k : Int) := by
  have hw : 0 ≤ IntKind.u64.wrap a := by rw [IntKind.wrap_u64]; omega
  have h2 : (IntKind.u64.wrap a).tmod ↑n = (IntKind.u64.wrap a) % ↑n := Int.tmod_eq_emod_of_nonneg hw
  have h3 : 0 ≤ (IntKind.u64.wrap a) % (n : Int) := Int.emod_nonneg _ (by omega)
  have h4 : (IntKind.u64.wrap a) % (n : Int) < n := Int.emod_lt_of_pos _ (by omega)
  refine ⟨((IntKind.u64.wrap a) % (n : Int)).toNat, by omega, ?_⟩
  rw [h2, Int.toNat_of_nonneg h3]
  exact IntWalk.wrap64_in _ (by omega)

set_option maxRecDepth 100000 in
set_option maxHeartbeats 1000000 in
theorem ref_in (A : List Nm) (x : Nm) (a : Option Addr) (c : Nat) (w : World) (h : SRow w a c A) (hl : A.length ≤ 1000000) :
    Calls Tryd.prog 12 #[.slice a A.length c, .string ⟨⟨x⟩⟩] w fun e w' => e = .returned (.bool (A.contains x)) ∧ w = w' := by
  generalize hR : A.contains x = R
  have HR := Lib.hid hR
  have HS := Lib.hid h
  clear h hR
  go_enter Tryd.func12, Tryd.ntmps12
  go_wp2_with fail
  go_loopw [5] (fun i wr => ∃ k : Nat, k ≤ A.length ∧ i = .int .i64 k ∧ wr = w ∧ Hid (∀ y ∈ A.take k, (y == x) = false)) (fun i _ => A.length - (RowKit.intOf i).toNat)
  case atStart => exact ⟨0, by omega, rfl, rfl, Lib.hid (by simp)⟩
  case round =>
    obtain ⟨k, hk, rfl, rfl, HZ⟩ := hrel
    by_cases hlk : k < A.length
    · obtain ⟨t, ht⟩ : ∃ t, A[k]? = some t := ⟨_, List.getElem?_eq_getElem hlk⟩
      obtain ⟨b, off, rfl, _, c1⟩ := strs_cell HS.out ht
      have HT := Lib.hid ht
      clear ht
      cases he : t == x with
      | true =>
        have HE := Lib.hid (show R = true by rw [← HR.out, List.contains_iff_mem]; have := eq_of_beq he; rw [← this]; exact List.mem_of_getElem? HT.out)
        go_wp2_with fail
        go_ret
        exact ⟨by rw [HE.out]; rfl, rfl⟩
      | false =>
        have HZ2 := Lib.hid (take_all_succ (P := fun y => (y == x) = false) HZ.out HT.out he)
        go_wp2_with fail
        go_roundw
        case rel => exact ⟨k + 1, by omega, by go_num, trivial, HZ2⟩
        case measure => simp [RowKit.intOf]; omega
    · obtain rfl : k = A.length := by omega
      have HE := Lib.hid (show R = false by
        rw [← HR.out]
        have h1 := HZ.out
        rw [List.take_length] at h1
        cases hc : A.contains x with
        | false => rfl
        | true =>
          rw [List.contains_iff_mem] at hc
          have := h1 x hc
          simp at this)
      go_wp2_with fail
      go_ret
      exact ⟨by rw [HE.out]; rfl, rfl⟩

theorem line_len {l : List ClassR} (hg : Good l) (n : Nm) : (line (wl l) n).length ≤ 13 := by
  obtain ⟨cur, h, _⟩ := line_end hg n
  exact h.len hg

/-- the changed copy -/
theorem classes_set {w w5 : World} {a : Option Addr} {cap g C b : Nat} {B0 : Nat} {l : List ClassR} {ps : List CAddr} {B : ClassR} {p : CAddr} {s : Nm} (h : ClassesAt w a cap l ps) (hb5 : Below w.heap.size w w5) (hg : w.heap.size ≤ g)
    (ho : w5.ownsRow B0 28 6 (.slice (some ⟨g, 0, none⟩) l.length C) l.length (List.zipWith classCells l ps).flatten) (hB : l[b]? = some B) (hp : ps[b]? = some p) :
    ClassesAt (w5.setCell ⟨g, b * 6 + 1, none⟩ (.string ⟨⟨s⟩⟩)) (some ⟨g, 0, none⟩) C (l.set b { B with sup := s }) ps := by
  obtain ⟨h1, h2, h3⟩ := h
  have e : (List.zipWith classCells l ps).length = l.length := by rw [List.length_zipWith, h1]; omega
  have ho' : w5.ownsRow B0 28 6 (.slice (some ⟨g, 0, none⟩) l.length C) (List.zipWith classCells l ps).length (List.zipWith classCells l ps).flatten := by rw [e]; exact ho
  obtain ⟨a', cap', hv, hr⟩ := rows_of_own ho' (zipc_size _ _)
  simp only [Value.slice.injEq] at hv
  obtain ⟨rfl, _, rfl⟩ := hv
  have hbl : b < l.length := (List.getElem?_eq_some_iff.1 hB).1
  have hb6 : Below w.heap.size w (w5.setCell ⟨g, b * 6 + 1, none⟩ (.string ⟨⟨s⟩⟩)) := hb5.setCell hg _
  obtain ⟨hle, h0 | ⟨g', off, hgo, hlt, hc⟩⟩ := hr
  · rw [h0] at e; simp at e; omega
  simp only [Option.some.injEq, Addr.mk.injEq] at hgo
  obtain ⟨rfl, rfl, _⟩ := hgo
  refine ⟨by simp [h1], ⟨?_, Or.inr ⟨g, 0, rfl, by simpa [World.setCell] using hlt, ?_⟩⟩, ?_⟩
  · rw [List.length_zipWith, List.length_set]
    rw [e] at hle
    omega
  · intro k cs hk j u hu
    rw [List.getElem?_zipWith] at hk
    rw [List.getElem?_set] at hk
    by_cases hkb : b = k
    · subst hkb
      rw [if_pos rfl, hp] at hk
      simp only [hbl, if_true] at hk
      have hk2 : classCells { B with sup := s } p = cs := by simpa using hk
      subst hk2
      have hold : (List.zipWith classCells l ps)[b]? = some (classCells B p) := by rw [List.getElem?_zipWith, hB, hp]
      by_cases hj : j = 1
      · subst hj
        have : u = .string ⟨⟨s⟩⟩ := by simpa [classCells] using hu.symm
        subst this
        rw [Nat.zero_add]
        have hcell := hc b _ hold 1 _ rfl
        rw [Nat.zero_add] at hcell
        exact World.cell?_setCell_same _ _ _ hcell
      · rw [World.cell?_setCell_other]
        · apply hc b _ hold j u
          match j, hj, hu with
          | 0, _, hu => exact hu
          | 2, _, hu => exact hu
          | 3, _, hu => exact hu
          | 4, _, hu => exact hu
          | 5, _, hu => exact hu
          | j + 6, _, hu => simp [classCells] at hu
        · intro q
          simp only [Addr.mk.injEq] at q
          omega
    · rw [if_neg hkb] at hk
      rw [World.cell?_setCell_other]
      · apply hc k cs ?_ j u hu
        rw [List.getElem?_zipWith]
        exact hk
      · intro q
        have hj : j < 6 := by
          have hs := zipc_size l ps cs (List.mem_of_getElem? (by rw [List.getElem?_zipWith]; exact hk))
          have := (List.getElem?_eq_some_iff.1 hu).1
          omega
        simp only [Addr.mk.injEq] at q
        omega
  · intro k c q hk hq
    rw [List.getElem?_set] at hk
    by_cases hkb : b = k
    · subst hkb
      rw [if_pos rfl] at hk
      simp only [hbl, if_true, Option.some.injEq] at hk
      rw [hp] at hq
      cases hq
      subst hk
      exact (h3 b B p hB hp).below hb6
    · rw [if_neg hkb] at hk
      exact (h3 k c q hk hq).below hb6

set_option maxRecDepth 100000 in
set_option maxHeartbeats 4000000 in
theorem worldRound_go (l : List ClassR) (ps : List CAddr) (a : Option Addr) (cap : Nat) (i k : Int) (w : World) (hC : ClassesAt w a cap l ps) (hF : FormsAt w) (hB : ClsOk l) (hll : l.length ≤ 1048576) :
    Calls Tryd.prog 4 #[.slice a l.length cap, .int .i64 i, .int .i64 k] w fun e w' => e = .returned (.bool true) ∧ Below w.heap.size w w' := by
  have HC := Lib.hid hC
  have HF := Lib.hid hF
  have HB := Lib.hid hB
  clear hC hF hB
  go_enter Tryd.func4, Tryd.ntmps4
  go_wp2_with fail
  refine (named_true _).mono ?_
  rintro e w1 ⟨rfl, hb1⟩
  have HB1 := Lib.hid hb1
  have HK1 := Lib.hid (wcheck_calls l ps a cap w1 (HC.out.below hb1) (HF.out.below hb1) HB.out)
  clear hb1
  by_cases h0 : l.length = 0
  · have hnil : l = [] := List.eq_nil_of_length_eq_zero h0
    go_wp2_with fail
    go_ret
    exact ⟨rfl, HB1.out⟩
  have hpos : 0 < l.length := by omega
  have hne : ¬ l = [] := by intro h; rw [h] at h0; simp at h0
  go_wp2_with fail
  refine HK1.out.mono ?_
  rintro e w2 ⟨rfl, hb2⟩
  have HB2 := Lib.hid (bl_trans HB1.out hb2)
  clear hb2 HK1
  by_cases hr1 : readErr l = 0
  case neg =>
    rw [errOf_ne hr1]
    generalize readErr l = z at *
    clear hr1
    go_wp2_with fail
    go_ret
    exact ⟨rfl, HB2.out⟩
  case pos =>
    have HG := Lib.hid ((readErr_zero l).1 hr1)
    rw [hr1, errOf_zero]
    clear hr1
    obtain ⟨ka, hka, eka⟩ := turn_w i l.length hpos (by omega)
    obtain ⟨kb, hkb, ekb⟩ := turn_w k l.length hpos (by omega)
    obtain ⟨A, hA⟩ : ∃ A, l[ka]? = some A := ⟨_, List.getElem?_eq_getElem hka⟩
    obtain ⟨B, hB⟩ : ∃ B, l[kb]? = some B := ⟨_, List.getElem?_eq_getElem hkb⟩
    have HA := Lib.hid hA
    have HBB := Lib.hid hB
    have hAl := (HB.out A (List.mem_of_getElem? hA)).2.nm
    have HWE := Lib.hid (show withErr l A.nm = 0 from withErr_zero.2 ⟨HG.out, by unfold names wl; simp only [List.map_cons, List.mem_cons]; right; right; exact List.mem_map.2 ⟨A, List.mem_of_getElem? hA, rfl⟩⟩)
    have HSU := Lib.hid (supers_calls l ps a cap A.nm w2 (HC.out.below HB2.out) (HF.out.below HB2.out) HB.out hAl)
    rw [HWE.out] at HSU
    obtain ⟨b1, off, pA, rfl, hlt, hpA, _, d0, d1, d2, d3, d4, d5⟩ := (HC.out.below HB2.out).cells hA
    have hka0 : (0 : Int) ≤ (ka : Int) := Int.natCast_nonneg _
    have hkb0 : (0 : Int) ≤ (kb : Int) := Int.natCast_nonneg _
    have hkai : (ka : Int) < (l.length : Int) := by omega
    have hkbi : (kb : Int) < (l.length : Int) := by omega
    clear hA hB
    go_wp2_with fail
    refine HSU.out.mono ?_
    intro e w3 hr
    obtain ⟨hb3, v3, ev3, rfl, hv3⟩ := list_open hr
    have HB3 := Lib.hid (bl_trans HB2.out hb3)
    rcases hv3 with ⟨h, _⟩ | ⟨_, rfl, a3, c3, rfl, hs3⟩
    · exact absurd rfl h
    have HS3 := Lib.hid hs3
    have HC3 := Lib.hid (HC.out.below HB3.out)
    have ho0 : (w3.alloc (.cells #[] 28)).ownsRow w3.heap.size 28 6 (.slice (some ⟨w3.heap.size, 0, none⟩) 0 0) 0 [] := World.ownsRow_made w3 #[] 0 (Nat.le_refl _) (by unfold maxLen; omega) rfl
    have HO0 := Lib.hid ho0
    have hll3 := line_len HG.out A.nm
    clear hr hb3 hs3 HSU ho0 d0 d1 d2 d3 d4 d5
    go_wp2_with (at_builtin; refine wpList_append_src0 rowClass rfl _ _ rfl w3.heap.size _ 0 [] rfl ?c0 _ l.length (List.zipWith classCells l ps).flatten rfl ?c1 ?c2 ?c3 ?c4 ?_)
    case c0 => exact HO0.out
    case c1 => exact src_of_classes (HC3.out.below ((Below.refl _ _).alloc (Nat.le_refl _) _))
    case c2 => omega
    case c3 => omega
    case c4 => simp
    intro v4 w4 ho4 hg4
    have hb4 : Below w3.heap.size w3 w4 := Below.grown ((Below.refl _ _).alloc (Nat.le_refl _) _) hg4 (by simp) (fun k hk => by simp [Value.ownBlock] at hk; omega)
    try rw [Nat.zero_add] at ho4
    try rw [List.nil_append] at ho4
    obtain ⟨g, C, rfl, hgB, hgl⟩ := ho4.form hpos
    have HO4 := Lib.hid ho4
    have HB34 := Lib.hid hb4
    have HB4 := Lib.hid (bl_trans HB3.out hb4)
    obtain ⟨bA, oA, qA, eA, hltA, _, _, a0, a1, a2, a3', a4, a5⟩ := (HC3.out.below hb4).cells HA.out
    obtain ⟨bB, oB, qB, eB, hltB, hqB, _, e0, e1, e2, e3, e4, e5⟩ := (HC3.out.below hb4).cells HBB.out
    obtain ⟨rfl, rfl⟩ : bA = b1 ∧ oA = off := by simp only [Option.some.injEq, Addr.mk.injEq] at eA; omega
    obtain ⟨rfl, rfl⟩ : bB = bA ∧ oB = oA := by simp only [Option.some.injEq, Addr.mk.injEq] at eB; omega
    have hbn : bB ≠ g := by
      have h9 := (HC3.out.cells HA.out)
      obtain ⟨b9, o9, q9, e9, hlt9, _⟩ := h9
      simp only [Option.some.injEq, Addr.mk.injEq] at e9
      omega
    have hcg : ∃ u, w4.cell? ⟨g, kb * 6 + 1, none⟩ = some u := by
      obtain ⟨b', cap', _, _, hrow⟩ : ∃ b' cap', True ∧ True ∧ RowsAt w4 6 (some ⟨g, 0, none⟩) cap' (List.zipWith classCells l ps) := by
        have e' : (List.zipWith classCells l ps).length = l.length := by rw [List.length_zipWith, HC3.out.1]; omega
        have ho' : w4.ownsRow w3.heap.size 28 6 (.slice (some ⟨g, 0, none⟩) l.length C) (List.zipWith classCells l ps).length (List.zipWith classCells l ps).flatten := by rw [e']; exact ho4
        obtain ⟨a', cap', hv, hr⟩ := rows_of_own ho' (zipc_size _ _)
        simp only [Value.slice.injEq] at hv
        obtain ⟨rfl, _, rfl⟩ := hv
        exact ⟨0, _, trivial, trivial, hr⟩
      have hz : (List.zipWith classCells l ps)[kb]? = some (classCells B qB) := by rw [List.getElem?_zipWith, HBB.out, hqB]
      obtain ⟨_, h9 | ⟨g9, o9, hg9, _, hc9⟩⟩ := hrow
      · rw [h9] at hz; simp at hz
      · simp only [Option.some.injEq, Addr.mk.injEq] at hg9
        obtain ⟨rfl, rfl, _⟩ := hg9
        have := hc9 kb _ hz 1 _ rfl
        rw [Nat.zero_add] at this
        exact ⟨_, this⟩
    obtain ⟨ug, hug⟩ := hcg
    have hfz : w4.frozen? ⟨g, kb * 6 + 1, none⟩ = false := by
      rcases ho4.2 with ⟨h9, _⟩ | ⟨g9, c9, cur, h9, _, hg9, _⟩
      · simp at h9
      · simp only [Value.slice.injEq, Option.some.injEq, Addr.mk.injEq] at h9
        obtain ⟨⟨rfl, _, _⟩, _, rfl⟩ := h9
        simp [World.frozen?, hg9]
    have HCS := Lib.hid (classes_set (s := A.nm) HC3.out HB34.out hgB ho4 HBB.out hqB)
    have hb5 : Below w3.heap.size w3 (w4.setCell ⟨g, kb * 6 + 1, none⟩ (.string ⟨⟨A.nm⟩⟩)) := HB34.out.setCell hgB _
    have hkC : l.length ≤ C := by
      rcases ho4.2 with ⟨h9, _⟩ | ⟨g9, c9, cur, h9, _, _, h10, _⟩
      · simp at h9
      · simp only [Value.slice.injEq] at h9
        omega
    have HB6 := Lib.hid (bl_trans HB3.out hb5)
    have HIN := Lib.hid (ref_in (line (wl l) A.nm) B.nm a3 c3 _ (HS3.out.below hb5) (by omega))
    have HK6 := Lib.hid (by
      have h := wcheck_calls (l.set kb { B with sup := A.nm }) ps (some ⟨g, 0, none⟩) C _ HCS.out (HF.out.below HB6.out) (by
        intro d hd
        rcases List.mem_or_eq_of_mem_set hd with h | h
        · exact HB.out d h
        · obtain ⟨q1, q2⟩ := HB.out B (List.mem_of_getElem? HBB.out)
          rw [h]
          exact ⟨⟨q1.faces, q1.fields, q1.meths, q1.tys, q1.ms⟩, ⟨q2.nm, hAl, q2.faces, q2.fields, q2.meths⟩⟩)
      rw [List.length_set] at h
      exact h)
    have HRE := Lib.hid (fun h1 h2 h3 => round_err HG.out HA.out HBB.out h1 h2 h3)
    clear ho4 hg4 hb4 a1 a2 a4 a5 e1 e2 e4 e5 eA eB hb5
    generalize line (wl l) A.nm = ln at *
    cases hfa : A.face with
    | true =>
      rw [hfa] at a3'
      clear hfa
      go_wp2_with fail
      go_ret
      exact ⟨rfl, HB6.out⟩
    | false =>
      cases hfb : B.face with
      | true =>
        rw [hfa] at a3'
        rw [hfb] at e3
        clear hfa hfb
        go_wp2_with fail
        go_ret
        exact ⟨rfl, HB6.out⟩
      | false =>
        have HRR := Lib.hid (HRE.out hfa hfb)
        rw [hfa] at a3'
        rw [hfb] at e3
        clear hfa hfb HRE
        cases hct : ln.contains B.nm with
        | false =>
          rw [hct] at HIN
          clear hct
          go_wp2_with fail
          refine HIN.out.mono ?_
          rintro e w7 ⟨rfl, rfl⟩
          go_wp2_with fail
          go_ret
          exact ⟨rfl, HB6.out⟩
        | true =>
          rw [hct] at HIN
          have hr6 := HRR.out (by simpa using hct)
          rw [hr6] at HK6
          clear hct hr6 HRR
          have HE6 : errOf 6 = errV 6 := rfl
          rw [HE6] at HK6
          clear HE6
          go_wp2_with fail
          refine HIN.out.mono ?_
          rintro e w7 ⟨rfl, rfl⟩
          go_wp2_with fail
          refine HK6.out.mono ?_
          rintro e w8 ⟨rfl, hb8⟩
          have HB8 := Lib.hid (bl_trans HB6.out hb8)
          clear hb8
          go_wp2_with fail
          go_ret
          exact ⟨by first | rfl | exact ret_bool (by simp), HB8.out⟩

set_option maxRecDepth 100000 in
theorem worldRound.walk {H : Type} {enc : TypeId × Value → H} {W : World} {base : Nat} {v0 : Value} {d0 : DataW H} {p0 : List MemPlace} (hv0 : Value.okWide Tryd.prog W .any base 22 v0) (h0 : DataW.Trod enc Tryd.prog W 0 (fun _ => true) true 22 v0 d0 p0)
    (i : Int) (_ : (Lit.int .i64 i).wf = true) (k : Int) (_ : (Lit.int .i64 k).wf = true)
    (W' : World) (hW : W' = W) (hL : laidMetH Tryd.prog Rows.worldRoundUptoRow.laid W) {S : Prop} (_ : S) (hbulk : Rows.uptoBulkAll [d0, DataW.lit (.int .i64 i), DataW.lit (.int .i64 k)] ≤ 1048576) :
    Calls Tryd.prog 4 #[v0, .int .i64 i, .int .i64 k] W' fun e w' => e = .returned (.bool true) ∧ Below W'.heap.size W' w' := by
  subst hW
  obtain ⟨a0, len, cap0, rfl⟩ := WideShapes.okWide_slice Tryd.underlying22 hv0
  obtain ⟨fuel, hf⟩ := h0
  obtain ⟨a, cap, l, ps, hcs, hC, hll, ht⟩ := open_classes hf
  simp only [Value.cells, List.cons.injEq, and_true] at hcs
  rw [hcs]
  simp only [Rows.uptoBulkAll, Rows.uptoBulk] at hbulk
  exact worldRound_go l ps a cap i k W' hC (forms_of_laid hL (by kernel_rfl)) (ht (by omega)) (by omega)
end Go.Proofs.YtokomofjcnefaaaDoor
