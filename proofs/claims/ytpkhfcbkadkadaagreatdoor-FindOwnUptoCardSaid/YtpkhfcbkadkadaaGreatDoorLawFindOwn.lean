/-
  FindOwn: the walk of the law.
-/
import Derived.Test.YtpkhfcbkadkadaaGreatDoorTexts
import Derived.Test.YtpkhfcbkadkadaaGreatDoorRefIn
import Derived.Test.YtpkhfcbkadkadaaGreatDoorWorldC
import Derived.Test.YtpkhfcbkadkadaaGreatDoorWorldL
import Derived.Test.YtpkhfcbkadkadaaGreatDoorFind3
import Derived.Test.YtpkhfcbkadkadaaGreatDoorFrame
import Derived.Deep.RegionHeld3
namespace Go.Proofs.YtpkhfcbkadkadaaGreatDoor
set_option linter.unusedVariables false
set_option linter.unusedSimpArgs false
open Go.RowKit Go.Shelf Go.Lib

set_option maxRecDepth 100000 in
set_option maxHeartbeats 4000000 in
theorem findOwn_go (l : List ClassR) (ps : List CAddr) (a : Option Addr) (cap : Nat) (i k : Int) (c n kd : Nm) (w : World) (hC : ClassesAt w a cap l ps) (hF : FormsAt w) (hB : ClsOk l) (hll : l.length ≤ 1048576) (hc : c.length ≤ 1048576) (hn : n.length ≤ 1048576) (hkd : kd.length ≤ 1048576) :
    Calls Tryz.prog 4 #[.slice a l.length cap, .int .i64 i, .int .i64 k, .string ⟨⟨c⟩⟩, .string ⟨⟨n⟩⟩, .string ⟨⟨kd⟩⟩] w fun e w' => e = .returned (.bool true) ∧ Below w.heap.size w w' := by
  have HC := Lib.hid hC
  have HF := Lib.hid hF
  have HB := Lib.hid hB
  clear hC hF hB
  go_enter Tryz.func4, Tryz.ntmps4
  go_wp2_with fail
  refine (named_true _).mono ?_
  rintro e w1 ⟨rfl, hb1⟩
  have HB1 := Lib.hid hb1
  have HK1 := Lib.hid (wcheck_calls l ps a cap w1 (HC.out.below hb1) (HF.out.below hb1) HB.out)
  clear hb1
  go_wp2_with fail
  refine HK1.out.mono ?_
  rintro e w2 ⟨rfl, hb2⟩
  have HB2 := Lib.hid (bl_trans HB1.out hb2)
  clear hb2 HK1
  by_cases hr1 : readErr l = 0
  case neg =>
    rw [errOf_ne hr1]
    generalize readErr l = z at *
    clear hr1
    go_wp2_with fail
    go_ret
    exact ⟨rfl, HB2.out⟩
  case pos =>
    have HG := Lib.hid ((readErr_zero l).1 hr1)
    rw [hr1, errOf_zero]
    clear hr1
    by_cases h0 : l.length = 0
    · have hnil : l = [] := List.eq_nil_of_length_eq_zero h0
      go_wp2_with fail
      go_ret
      exact ⟨rfl, HB2.out⟩
    have hpos : 0 < l.length := by omega
    have hne : ¬ l = [] := by intro h; rw [h] at h0; simp at h0
    obtain ⟨ka, hka, eka⟩ := turn_at i l.length hpos (by omega)
    have hu1 : IntKind.u64.wrap (l.length : Int) = (l.length : Int) := by rw [IntKind.wrap_u64]; omega
    rw [hu1] at eka
    clear hu1
    obtain ⟨A, hA⟩ : ∃ A, l[ka]? = some A := ⟨_, List.getElem?_eq_getElem hka⟩
    have HA := Lib.hid hA
    obtain ⟨b1, off, pA, rfl, hlt, hpA, hclA, d0, d1, d2, d3, d4, d5⟩ := (HC.out.below HB2.out).cells hA
    obtain ⟨fa, fc, ga, gc, ma, mc, pms⟩ := pA
    simp only at d2 d4 d5
    have HCL := Lib.hid hclA
    have hka0 : (0 : Int) ≤ (ka : Int) := Int.natCast_nonneg _
    have hkai : (ka : Int) < (l.length : Int) := by omega
    clear hA hpA hclA
    by_cases hm0 : A.meths.length = 0
    · have hmn : A.meths = [] := List.eq_nil_of_length_eq_zero hm0
      have HBX := Lib.hid (HB2.out.alloc HB2.out.size (.cells #[.string ⟨⟨A.nm⟩⟩, .string ⟨⟨A.sup⟩⟩, .slice fa A.faces.length fc, .bool A.face, .slice ga A.fields.length gc, .slice ma 0 mc] 41))
      rw [hm0] at d5
      go_wp2_with fail
      refine (method_calls_find l ps _ cap c n kd _ (HC.out.below HBX.out) (HF.out.below HBX.out) HB.out hc).mono ?_
      rintro e w5 ⟨hb5, ⟨hne, rfl⟩ | ⟨x, m, h0, hm, rfl⟩⟩
      · have HB5 := Lib.hid (HBX.out.trans (hb5.mono HBX.out.size))
        have HB6 := Lib.hid (fun o => HB5.out.alloc HB5.out.size o)
        have HAL := Lib.hid (fun W (hW : Below w.heap.size w W) => all_calls l ps _ cap c W (HC.out.below hW) (HF.out.below hW) HB.out hc)
        clear hb5 hne
        generalize fndErr l c n kd = z at *
        unfold methV
        go_wp2_with fail
        refine (HAL.out _ (HB6.out _)).mono ?_
        intro e w7 hr
        obtain ⟨hb7, v7, ev7, rfl, hv7⟩ := list_open hr
        have HB7 := Lib.hid ((HB6.out _).trans (hb7.mono (HB6.out _).size))
        clear hr hb7 hv7
        go_wp2_with fail
        go_ret
        exact ⟨rfl, HB7.out⟩
      · have HB5 := Lib.hid (HBX.out.trans (hb5.mono HBX.out.size))
        have HB6 := Lib.hid (fun o => HB5.out.alloc HB5.out.size o)
        have HAL := Lib.hid (fun W (hW : Below w.heap.size w W) => all_calls l ps _ cap c W (HC.out.below hW) (HF.out.below hW) HB.out hc)
        rw [h0] at HAL
        have HIN := Lib.hid (show (every (wl l) c).contains x = true by rw [List.contains_iff_mem]; exact methOf_every (withErr_zero.1 h0).1 hm)
        have hl50 := every_le50 (withErr_zero.1 h0).1 c
        clear hb5 h0 hm
        unfold methV
        go_wp2_with fail
        refine (HAL.out _ (HB6.out _)).mono ?_
        intro e w7 hr
        obtain ⟨hb7, v7, ev7, rfl, hv7⟩ := list_open hr
        have HB7 := Lib.hid ((HB6.out _).trans (hb7.mono (HB6.out _).size))
        rcases hv7 with ⟨h, _⟩ | ⟨_, rfl, a7, c7, rfl, hs7⟩
        · exact absurd rfl h
        have HR7 := Lib.hid (ref_in (every (wl l) c) x a7 c7 w7 hs7 (by omega))
        rw [HIN.out] at HR7
        clear hr hb7 hs7
        generalize every (wl l) c = ev at *
        go_wp2_with fail
        refine HR7.out.mono ?_
        rintro e w8 ⟨rfl, rfl⟩
        go_wp2_with fail
        go_ret
        exact ⟨rfl, HB7.out⟩
    · have hm1 : 0 < A.meths.length := by omega
      have hm8 := (good_cls HG.out (c := A) (by unfold wl; simp only [List.mem_cons]; right; right; exact List.mem_of_getElem? HA.out)).2.2.2.2
      obtain ⟨kb, hkb, ekb⟩ := turn_at k A.meths.length hm1 (by omega)
      have hu2 : IntKind.u64.wrap (A.meths.length : Int) = (A.meths.length : Int) := by rw [IntKind.wrap_u64]; omega
      rw [hu2] at ekb
      obtain ⟨M, hM⟩ : ∃ M, A.meths[kb]? = some M := ⟨_, List.getElem?_eq_getElem hkb⟩
      obtain ⟨b2, off2, q, eqm, hlt2, _, _, m0, m1, m2, m3, m4, m5, m6, m7⟩ := HCL.out.2.2.cells hM
      simp only at eqm
      subst eqm
      have HM := Lib.hid hM
      have hne2 : ¬ A.meths = [] := by intro h; rw [h] at hm1; simp at hm1
      have hkb0 : (0 : Int) ≤ (kb : Int) := Int.natCast_nonneg _
      have hkb1 : (kb : Int) < (A.meths.length : Int) := by omega
      clear hM
      go_wp2_with fail
      have HD0 := Lib.hid (blk_new w2 w2.heap.size 41 #[.string ⟨⟨A.nm⟩⟩, .string ⟨⟨A.sup⟩⟩, .slice fa A.faces.length fc, .bool A.face, .slice ga A.fields.length gc, .slice (some ⟨b2, off2, none⟩) A.meths.length mc] rfl)
      have HBW := Lib.hid ((Below.refl w2.heap.size w2).alloc (Nat.le_refl _) (.cells #[.string ⟨⟨A.nm⟩⟩, .string ⟨⟨A.sup⟩⟩, .slice fa A.faces.length fc, .bool A.face, .slice ga A.fields.length gc, .slice (some ⟨b2, off2, none⟩) A.meths.length mc] 41))
      generalize w2.alloc (.cells #[.string ⟨⟨A.nm⟩⟩, .string ⟨⟨A.sup⟩⟩, .slice fa A.faces.length fc, .bool A.face, .slice ga A.fields.length gc, .slice (some ⟨b2, off2, none⟩) A.meths.length mc] 41) = W0 at *
      have hl0 := HD0.out.lt
      have hl2 := HBW.out.size
      have hS : ∀ W', Below W0.heap.size W0 W' → W'.cell? ⟨w2.heap.size, 5, none⟩ = some (.slice (some ⟨b2, off2, none⟩) A.meths.length mc) ∧ W'.cell? ⟨b2, off2 + kb * 8, none⟩ = some (.string ⟨⟨M.nm⟩⟩) ∧ W'.cell? ⟨b2, off2 + kb * 8 + 1, none⟩ = some (.string ⟨⟨M.ty⟩⟩) ∧ W'.cell? ⟨b2, off2 + kb * 8 + 2, none⟩ = some (.bool M.stat) ∧ W'.cell? ⟨b2, off2 + kb * 8 + 3, none⟩ = some (.bool M.abst) ∧ W'.cell? ⟨b2, off2 + kb * 8 + 4, none⟩ = some (.bool M.priv) ∧ W'.cell? ⟨b2, off2 + kb * 8 + 5, none⟩ = some (.int .i64 M.loc) ∧ W'.cell? ⟨b2, off2 + kb * 8 + 6, none⟩ = some (.slice q.ca M.code.length q.cc) ∧ W'.cell? ⟨b2, off2 + kb * 8 + 7, none⟩ = some (.slice q.ha M.hs.length q.hc) := fun W' hW => by
        have hz : ∀ o, W'.cell? ⟨b2, o, none⟩ = w2.cell? ⟨b2, o, none⟩ := fun o => by rw [(bl_trans HBW.out hW).cell (p := ⟨b2, o, none⟩) hlt2]
        exact ⟨(HD0.out.below hW).cell 5, by rw [hz]; exact m0, by rw [hz]; exact m1, by rw [hz]; exact m2, by rw [hz]; exact m3, by rw [hz]; exact m4, by rw [hz]; exact m5, by rw [hz]; exact m6, by rw [hz]; exact m7⟩
      have HS := Lib.hid hS
      obtain ⟨e0, e1, e2, e3, e4, e5, e6, e7, e8⟩ := hS W0 (Below.refl _ _)
      clear hS m0 m1 m2 m3 m4 m5 m6 m7 d0 d1 d2 d3 d4 d5
      go_region_held3 (fun W' => W'.cell? ⟨w2.heap.size, 5, none⟩ = some (.slice (some ⟨b2, off2, none⟩) A.meths.length mc) ∧ W'.cell? ⟨b2, off2 + kb * 8, none⟩ = some (.string ⟨⟨M.nm⟩⟩) ∧ W'.cell? ⟨b2, off2 + kb * 8 + 1, none⟩ = some (.string ⟨⟨M.ty⟩⟩) ∧ W'.cell? ⟨b2, off2 + kb * 8 + 2, none⟩ = some (.bool M.stat) ∧ W'.cell? ⟨b2, off2 + kb * 8 + 3, none⟩ = some (.bool M.abst) ∧ W'.cell? ⟨b2, off2 + kb * 8 + 4, none⟩ = some (.bool M.priv) ∧ W'.cell? ⟨b2, off2 + kb * 8 + 5, none⟩ = some (.int .i64 M.loc) ∧ W'.cell? ⟨b2, off2 + kb * 8 + 6, none⟩ = some (.slice q.ca M.code.length q.cc) ∧ W'.cell? ⟨b2, off2 + kb * 8 + 7, none⟩ = some (.slice q.ha M.hs.length q.hc))
        (exact HS.out _ (by repeat (first | exact Below.refl _ _ | refine Below.drew ?_ | refine Below.alloc ?_ (by first | omega | (simp; done) | (simp; omega)) _ | refine Below.setCell ?_ (by first | omega | (simp; done) | (simp; omega)) _)))
        (fail)
      all_goals
        have HMB := Lib.hid (blk_new W0 W0.heap.size 45 (mArr M q) rfl).drew
        have HBM := Lib.hid ((Below.refl W0.heap.size W0).alloc (Nat.le_refl _) (.cells (mArr M q) 45)).drew
        simp only [mArr] at HMB HBM
        generalize (W0.alloc (.cells #[.string ⟨⟨M.nm⟩⟩, .string ⟨⟨M.ty⟩⟩, .bool M.stat, .bool M.abst, .bool M.priv, .int .i64 M.loc, .slice q.ca M.code.length q.cc, .slice q.ha M.hs.length q.hc] 45)).drew = W1 at *
        have HMB1 := Lib.hid (show Blk W1 W0.heap.size 45 (mArr M q) from HMB.out)
        have hl1 := HMB1.out.lt
        have HD1 := Lib.hid (HD0.out.below HBM.out)
        have c0 := HD1.out.cell 0
        obtain ⟨m0, m1, m2, m3, m4, m5, m6, m7⟩ := mblk_cells HMB1.out
        have HB3 := Lib.hid (bl_trans HB2.out (bl_trans HBW.out HBM.out))
        have HME := Lib.hid (methOf_own HG.out HA.out HM.out)
        have HWE := Lib.hid (show withErr l A.nm = 0 from withErr_zero.2 ⟨HG.out, by unfold names wl; simp only [List.map_cons, List.mem_cons]; right; right; exact List.mem_map.2 ⟨A, List.mem_of_getElem? HA.out, rfl⟩⟩)
        have hAl := (HB.out A (List.mem_of_getElem? HA.out)).2.nm
        have HFI := Lib.hid (method_calls_find l ps _ cap A.nm M.nm M.ty W1 (HC.out.below HB3.out) (HF.out.below HB3.out) HB.out hAl)
        clear e0 e1 e2 e3 e4 e5 e6 e7 e8 HS
        go_wp2_with fail
        refine HFI.out.mono ?_
        rintro e w4 ⟨hb4, ⟨hne4, rfl⟩ | ⟨x, m, _, hm, rfl⟩⟩
        · exact absurd (fnd_zero HWE.out HME.out) hne4
        obtain ⟨rfl, rfl⟩ : A.nm = x ∧ M = m := by
          have := HME.out
          rw [hm] at this
          simp only [Option.some.injEq, Prod.mk.injEq] at this
          exact ⟨this.1.symm, this.2.symm⟩
        have HB4 := Lib.hid (HB3.out.trans (hb4.mono HB3.out.size))
        have f0 := (HD1.out.below hb4).cell 0
        obtain ⟨n0, n1, n2, n3, n4, n5, n6, n7⟩ := mblk_cells (HMB1.out.below hb4)
        have hl4 := hb4.size
        have hla : w2.heap.size < w4.heap.size := (HD1.out.below hb4).lt
        have hlm : W0.heap.size < w4.heap.size := (HMB1.out.below hb4).lt
        clear hb4 hm c0 m0 m1 m2 m3 m4 m5 m6 m7
        unfold methV
        simp only [bareM, nilM, List.length_nil]
        go_wp2_with fail
        have HBX := Lib.hid (HB4.out.alloc HB4.out.size (.cells #[.string ⟨⟨M.nm⟩⟩, .string ⟨⟨M.ty⟩⟩, .bool M.stat, .bool M.abst, .bool M.priv, .int .i64 M.loc, .slice none 0 0, .slice none 0 0] 45))
        refine (method_calls_find l ps _ cap c n kd _ (HC.out.below HBX.out) (HF.out.below HBX.out) HB.out hc).mono ?_
        rintro e w5 ⟨hb5, ⟨hne, rfl⟩ | ⟨x, m, h0, hm, rfl⟩⟩
        · have HB5 := Lib.hid (HBX.out.trans (hb5.mono HBX.out.size))
          have HB6 := Lib.hid (fun o => HB5.out.alloc HB5.out.size o)
          have HAL := Lib.hid (fun W (hW : Below w.heap.size w W) => all_calls l ps _ cap c W (HC.out.below hW) (HF.out.below hW) HB.out hc)
          clear hb5 hne
          generalize fndErr l c n kd = z at *
          unfold methV
          go_wp2_with fail
          refine (HAL.out _ (HB6.out _)).mono ?_
          intro e w7 hr
          obtain ⟨hb7, v7, ev7, rfl, hv7⟩ := list_open hr
          have HB7 := Lib.hid ((HB6.out _).trans (hb7.mono (HB6.out _).size))
          clear hr hb7 hv7
          go_wp2_with fail
          go_ret
          exact ⟨rfl, HB7.out⟩
        · have HB5 := Lib.hid (HBX.out.trans (hb5.mono HBX.out.size))
          have HB6 := Lib.hid (fun o => HB5.out.alloc HB5.out.size o)
          have HAL := Lib.hid (fun W (hW : Below w.heap.size w W) => all_calls l ps _ cap c W (HC.out.below hW) (HF.out.below hW) HB.out hc)
          rw [h0] at HAL
          have HIN := Lib.hid (show (every (wl l) c).contains x = true by rw [List.contains_iff_mem]; exact methOf_every (withErr_zero.1 h0).1 hm)
          have hl50 := every_le50 (withErr_zero.1 h0).1 c
          clear hb5 h0 hm
          unfold methV
          go_wp2_with fail
          refine (HAL.out _ (HB6.out _)).mono ?_
          intro e w7 hr
          obtain ⟨hb7, v7, ev7, rfl, hv7⟩ := list_open hr
          have HB7 := Lib.hid ((HB6.out _).trans (hb7.mono (HB6.out _).size))
          rcases hv7 with ⟨h, _⟩ | ⟨_, rfl, a7, c7, rfl, hs7⟩
          · exact absurd rfl h
          have HR7 := Lib.hid (ref_in (every (wl l) c) x a7 c7 w7 hs7 (by omega))
          rw [HIN.out] at HR7
          clear hr hb7 hs7
          generalize every (wl l) c = ev at *
          go_wp2_with fail
          refine HR7.out.mono ?_
          rintro e w8 ⟨rfl, rfl⟩
          go_wp2_with fail
          go_ret
          exact ⟨rfl, HB7.out⟩

set_option maxRecDepth 100000 in
theorem findOwn.walk {H : Type} {enc : TypeId × Value → H} {W : World} {base : Nat}
    {v0 : Value} {d0 : DataW H} {p0 : List MemPlace} (hv0 : Value.okWide Tryz.prog W .any base 22 v0) (h0 : DataW.Trod enc Tryz.prog W 0 (fun _ => true) true 22 v0 d0 p0)
    (n1 : Int) (_ : (Lit.int .i64 n1).wf = true)
    (n2 : Int) (_ : (Lit.int .i64 n2).wf = true)
    (s3 : ByteArray) (hs3 : s3.size ≤ maxLen) (hr3 : s3.data.toList.length ≤ reachBytes)
    (s4 : ByteArray) (hs4 : s4.size ≤ maxLen) (hr4 : s4.data.toList.length ≤ reachBytes)
    (s5 : ByteArray) (hs5 : s5.size ≤ maxLen) (hr5 : s5.data.toList.length ≤ reachBytes)
    (W' : World) (hW : W' = W) (hL : laidMetH Tryz.prog Rows.findOwnUptoRow.laid W) {S : Prop} (_ : S) (hbulk : Rows.uptoBulkAll [d0, DataW.lit (.int .i64 n1), DataW.lit (.int .i64 n2), DataW.lit (.string s3.data.toList), DataW.lit (.string s4.data.toList), DataW.lit (.string s5.data.toList)] ≤ 1048576) :
    Calls Tryz.prog 4 #[v0, .int .i64 n1, .int .i64 n2, .string s3, .string s4, .string s5] W' fun e w' => e = .returned (.bool true) ∧ Below W'.heap.size W' w' := by
  subst hW
  obtain ⟨a0, len0, cap0, rfl⟩ := WideShapes.okWide_slice Tryz.underlying22 hv0
  obtain ⟨fuel0, hf0⟩ := h0
  obtain ⟨aa0, cc0, l0, ps0, hcs0, hC0, hll0, ht0⟩ := open_classes hf0
  simp only [Value.cells, List.cons.injEq, and_true] at hcs0
  rw [hcs0]
  obtain ⟨⟨x3⟩⟩ := s3
  obtain ⟨⟨x4⟩⟩ := s4
  obtain ⟨⟨x5⟩⟩ := s5
  simp only [Rows.uptoBulkAll, Rows.uptoBulk] at hbulk
  exact findOwn_go l0 ps0 aa0 cc0 n1 n2 x3 x4 x5 W' hC0 (forms_of_laid hL (by kernel_rfl)) (ht0 (by omega)) (by omega) (by omega) (by omega) (by omega)
end Go.Proofs.YtpkhfcbkadkadaaGreatDoor
