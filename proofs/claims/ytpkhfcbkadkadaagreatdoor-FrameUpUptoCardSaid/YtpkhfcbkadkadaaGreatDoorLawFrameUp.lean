/-
  FrameUp: the walk of the law.
-/
import Derived.Test.YtpkhfcbkadkadaaGreatDoorFrm6
import Derived.Test.YtpkhfcbkadkadaaGreatDoorFrame
namespace Go.Proofs.YtpkhfcbkadkadaaGreatDoor
set_option linter.unusedVariables false
set_option linter.unusedSimpArgs false
open Go.RowKit Go.Shelf Go.Lib

set_option maxRecDepth 100000 in
set_option maxHeartbeats 8000000 in
theorem frameUp_go (l : List ClassR) (ps : List CAddr) (a : Option Addr) (cap : Nat) (fa fb : FrR) (pa pb : FAddr) (w : World) (hC : ClassesAt w a cap l ps) (hF : FormsAt w) (hB : ClsOk l) (hfa : FrAt w fa pa) (hfb : FrAt w fb pb) (hba : FrB fa) (hbb : FrB fb) :
    Calls Tryz.prog 8 #[.slice a l.length cap, frV fa pa, frV fb pb] w fun e w' => e = .returned (.bool true) ∧ Below w.heap.size w w' := by
  have HBB := Lib.hid (fun o1 o2 => bl_alloc (bl_alloc (Below.refl w.heap.size w) o1) o2)
  have HJ1 := Lib.hid (fun W (hW : Below w.heap.size w W) => fjoin_calls l ps a cap fa fb pa pb W (hC.below hW) (hF.below hW) hB (hfa.below hW) (hfb.below hW) hba hbb)
  have HJ2 := Lib.hid (fun W (hW : Below w.heap.size w W) => fjoin_calls l ps a cap fb fa pb pa W (hC.below hW) (hF.below hW) hB (hfb.below hW) (hfa.below hW) hbb hba)
  have HBE := Lib.hid (fun (f : FrR) (p q : FAddr) (g : FrR) W (hW : Below w.heap.size w W) (h : (f = fa ∧ p = pa) ∨ (f = fb ∧ p = pb)) (hg : FrAt W g q) (hgb : FrB g) (h0 : fjErr l f g = 0) (hj : joinF (wl l) f g = g) => (show Calls Tryz.prog 25 #[.slice a l.length cap, frV f p, frV g q] W fun e w' => e = .returned (.tuple #[.bool true, .nilIface]) ∧ Below W.heap.size W w' from by
    rcases h with ⟨rfl, rfl⟩ | ⟨rfl, rfl⟩
    · exact below_calls l ps a cap _ g _ q W (hC.below hW) (hF.below hW) hB (hfa.below hW) hg hba hgb h0 hj
    · exact below_calls l ps a cap _ g _ q W (hC.below hW) (hF.below hW) hB (hfb.below hW) hg hbb hgb h0 hj))
  have HCM := Lib.hid (@fj_comm l fa fb)
  have HJC := Lib.hid (fun hg h => @joinF_comm l hg fa fb h)
  have HA1 := Lib.hid (fun hg h => @fj_above l hg fa fb h)
  have HA2 := Lib.hid (fun hg h => @fj_above2 l hg fa fb h)
  have HLN := Lib.hid (show fjErr l fa fb = 0 → Good l ∧ FrB (joinF (wl l) fa fb) ∧ (joinF (wl l) fa fb).loc.length ≤ 100000 ∧ (joinF (wl l) fa fb).st.length ≤ 100000 from fun h => by
    have hz := (fj_zero.1 h).1
    have hg := (readErr_zero l).1 hz
    obtain ⟨h1, _⟩ := fj_above hg h
    obtain ⟨⟨n1, n2⟩, hk⟩ := chk_zero.1 (fj_zero.1 h1).2.2.1
    refine ⟨hg, fun x hx => ?_, by omega, by omega⟩
    obtain ⟨k, hk2, rfl⟩ := kind_zero.1 (hk x hx)
    cases k with
    | nul => simp [Kd.text]
    | top => simp [Kd.text]
    | ty d b => have := ty_len hk2.1 hk2.2; omega)
  clear hC hF hB hfa hfb hba hbb
  have HD0 := Lib.hid ((blk_new w w.heap.size 65 #[.slice pa.la fa.loc.length pa.lc, .slice pa.sa fa.st.length pa.sc] rfl).below ((Below.refl _ _).alloc (Nat.le_refl _) (.cells #[.slice pb.la fb.loc.length pb.lc, .slice pb.sa fb.st.length pb.sc] 65)))
  have HD1 := Lib.hid (blk_new (w.alloc (.cells #[.slice pa.la fa.loc.length pa.lc, .slice pa.sa fa.st.length pa.sc] 65)) (w.heap.size + 1) 65 #[.slice pb.la fb.loc.length pb.lc, .slice pb.sa fb.st.length pb.sc] (by simp))
  unfold frV at *
  go_enter Tryz.func8, Tryz.ntmps8
  go_wp2_with fail
  refine (named_true _).mono ?_
  rintro e w1 ⟨rfl, hb1⟩
  have HB1 := Lib.hid (bl_trans (HBB.out _ _) hb1)
  have HE0 := Lib.hid (HD0.out.below hb1)
  have HE1 := Lib.hid (HD1.out.below hb1)
  have e0 := HE0.out.cell 0
  have e1 := HE0.out.cell 1
  have e2 := HE0.out.lt
  have e3 := HE1.out.cell 0
  have e4 := HE1.out.cell 1
  have e5 := HE1.out.lt
  clear hb1 HD0 HD1
  go_wp2_with fail
  refine (HJ1.out _ HB1.out).mono ?_
  rintro e w2 ⟨hb2, ⟨hne, rfl⟩ | ⟨h0, p, rfl, hf⟩⟩
  · have HB2 := Lib.hid (bl_alloc (bl_trans HB1.out hb2) (.cells #[.slice none 0 0, .slice none 0 0] 65))
    have hq := bl_alloc hb2 (.cells #[.slice none 0 0, .slice none 0 0] 65)
    have f0 := (HE0.out.below hb2).cell 0
    have f1 := (HE0.out.below hb2).cell 1
    have f2 := (HE0.out.below hb2).lt
    have f3 := (HE1.out.below hb2).cell 0
    have f4 := (HE1.out.below hb2).cell 1
    have f5 := (HE1.out.below hb2).lt
    have HN2 := Lib.hid (show fjErr l fb fa ≠ 0 from fun h => hne (HCM.out.2 h))
    clear hb2 hq e0 e1 e2 e3 e4 e5
    simp only [frV, zeroF, nilF, List.length_nil]
    generalize fjErr l fa fb = z at *
    clear hne
    go_wp2_with fail
    refine (HJ2.out _ HB2.out).mono ?_
    rintro e w3 ⟨hb3, ⟨hne, rfl⟩ | ⟨h0, _⟩⟩
    · have HB3 := Lib.hid (bl_alloc (bl_trans HB2.out hb3) (.cells #[.slice none 0 0, .slice none 0 0] 65))
      simp only [frV, zeroF, nilF, List.length_nil]
      generalize fjErr l fb fa = z2 at *
      clear hne hb3
      go_wp2_with fail
      go_quiet (fail)
      go_wp2_with fail
      go_ret
      exact ⟨rfl, below_dn HB3.out _⟩
    · exact absurd h0 HN2.out
  · obtain ⟨hg, hfb', n1, n2⟩ := HLN.out h0
    have HBF := Lib.hid hfb'
    have h02 := HCM.out.1 h0
    have hjc := HJC.out hg h0
    obtain ⟨k1, k2⟩ := HA1.out hg h0
    obtain ⟨k3, k4⟩ := HA2.out hg h0
    have K1 := Lib.hid k1
    have K2 := Lib.hid k2
    have K3 := Lib.hid k3
    have K4 := Lib.hid k4
    have H02 := Lib.hid h02
    have HX := Lib.hid hjc
    have f0 := (HE0.out.below hb2).cell 0
    have f1 := (HE0.out.below hb2).cell 1
    have f2 := (HE0.out.below hb2).lt
    have f3 := (HE1.out.below hb2).cell 0
    have f4 := (HE1.out.below hb2).cell 1
    have f5 := (HE1.out.below hb2).lt
    have HE02 := Lib.hid (HE0.out.below hb2)
    have HE12 := Lib.hid (HE1.out.below hb2)
    have HB2 := Lib.hid (bl_trans HB1.out hb2)
    have HF := Lib.hid hf
    clear hfb' h02 hjc k1 k2 k3 k4 h0 hg hb2 hf e0 e1 e2 e3 e4 e5
    simp only [frV]
    generalize joinF (wl l) fa fb = F at *
    go_wp2_with fail
    have hb3 := (Below.refl w2.heap.size w2).alloc (Nat.le_refl _) (.cells #[.slice p.la F.loc.length p.lc, .slice p.sa F.st.length p.sc] 65)
    refine (HJ2.out _ (bl_trans HB2.out hb3)).mono ?_
    rintro e w4 ⟨hb4, ⟨hne, _⟩ | ⟨_, p', rfl, hf'⟩⟩
    · exact absurd H02.out hne
    rw [← HX.out] at hf' ⊢
    have hb24 := bl_trans hb3 hb4
    have HB4 := Lib.hid (bl_alloc (bl_trans HB2.out hb24) (.cells #[.slice p'.la F.loc.length p'.lc, .slice p'.sa F.st.length p'.sc] 65))
    have HF4 := Lib.hid ((HF.out.below hb24).below ((Below.refl _ _).alloc (Nat.le_refl _) (.cells #[.slice p'.la F.loc.length p'.lc, .slice p'.sa F.st.length p'.sc] 65)))
    have HG4 := Lib.hid (hf'.below ((Below.refl _ _).alloc (Nat.le_refl _) (.cells #[.slice p'.la F.loc.length p'.lc, .slice p'.sa F.st.length p'.sc] 65)))
    have hs2 := (blk_new w2 w2.heap.size 65 #[.slice p.la F.loc.length p.lc, .slice p.sa F.st.length p.sc] rfl).below hb4
    have HS2 := Lib.hid (hs2.below ((Below.refl _ _).alloc (Nat.le_refl _) (.cells #[.slice p'.la F.loc.length p'.lc, .slice p'.sa F.st.length p'.sc] 65)))
    have HS4 := Lib.hid (blk_new w4 w4.heap.size 65 #[.slice p'.la F.loc.length p'.lc, .slice p'.sa F.st.length p'.sc] rfl)
    have HE04 := Lib.hid ((HE02.out.below hb24).below ((Below.refl _ _).alloc (Nat.le_refl _) (.cells #[.slice p'.la F.loc.length p'.lc, .slice p'.sa F.st.length p'.sc] 65)))
    have HE14 := Lib.hid ((HE12.out.below hb24).below ((Below.refl _ _).alloc (Nat.le_refl _) (.cells #[.slice p'.la F.loc.length p'.lc, .slice p'.sa F.st.length p'.sc] 65)))
    have g0 := hs2.cell 0
    have g1 := hs2.cell 1
    have g2 := hs2.lt
    have g3 := (HE02.out.below hb24).cell 0
    have g4 := (HE02.out.below hb24).cell 1
    have g5 := (HE02.out.below hb24).lt
    clear hb3 hb4 hb24 hs2 hf' f0 f1 f2 f3 f4 f5 HJ1 HJ2 HF HE02 HE12
    simp only [frV]
    go_wp2_with fail
    refine (HBE.out fa pa p F _ HB4.out (Or.inl ⟨rfl, rfl⟩) HF4.out HBF.out K1.out K2.out).mono ?_
    rintro e w6 ⟨rfl, hb6⟩
    have HB6 := Lib.hid (bl_trans HB4.out hb6)
    have HF6 := Lib.hid (HF4.out.below hb6)
    have HG6 := Lib.hid (HG4.out.below hb6)
    have HS26 := Lib.hid (HS2.out.below hb6)
    have HS46 := Lib.hid (HS4.out.below hb6)
    have i0 := HS26.out.cell 0
    have i1 := HS26.out.cell 1
    have i2 := HS26.out.lt
    have i3 := (HE14.out.below hb6).cell 0
    have i4 := (HE14.out.below hb6).cell 1
    have i5 := (HE14.out.below hb6).lt
    clear hb6 g0 g1 g2 g3 g4 g5
    go_wp2_with fail
    refine (HBE.out fb pb p F _ HB6.out (Or.inr ⟨rfl, rfl⟩) HF6.out HBF.out K3.out K4.out).mono ?_
    rintro e w7 ⟨rfl, hb7⟩
    have HB7 := Lib.hid (bl_trans HB6.out hb7)
    have HSM := Lib.hid (sframe_calls F p p' w7 (HF6.out.below hb7) (HG6.out.below hb7) n1 n2)
    have j0 := (HS26.out.below hb7).cell 0
    have j1 := (HS26.out.below hb7).cell 1
    have j2 := (HS26.out.below hb7).lt
    have j3 := (HS46.out.below hb7).cell 0
    have j4 := (HS46.out.below hb7).cell 1
    have j5 := (HS46.out.below hb7).lt
    unfold frV at HSM
    clear hb7 i0 i1 i2 i3 i4 i5
    go_wp2_with fail
    refine HSM.out.mono ?_
    rintro e w8 ⟨rfl, hb8⟩
    have HB8 := Lib.hid (bl_trans HB7.out hb8)
    clear hb8
    go_wp2_with fail
    go_ret
    exact ⟨rfl, HB8.out⟩

set_option maxRecDepth 100000 in
theorem frameUp.walk {H : Type} {enc : TypeId × Value → H} {W : World} {base : Nat}
    {v0 : Value} {d0 : DataW H} {p0 : List MemPlace} (hv0 : Value.okWide Tryz.prog W .any base 22 v0) (h0 : DataW.Trod enc Tryz.prog W 0 (fun _ => true) true 22 v0 d0 p0)
    {v1 : Value} {d1 : DataW H} {p1 : List MemPlace} (hv1 : Value.okWide Tryz.prog W .any base 65 v1) (h1 : DataW.Trod enc Tryz.prog W 0 (fun _ => true) true 65 v1 d1 p1)
    {v2 : Value} {d2 : DataW H} {p2 : List MemPlace} (hv2 : Value.okWide Tryz.prog W .any base 65 v2) (h2 : DataW.Trod enc Tryz.prog W 0 (fun _ => true) true 65 v2 d2 p2)
    (W' : World) (hW : W' = W) (hL : laidMetH Tryz.prog Rows.frameUpUptoRow.laid W) {S : Prop} (_ : S) (hbulk : Rows.uptoBulkAll [d0, d1, d2] ≤ 1048576) :
    Calls Tryz.prog 8 #[v0, v1, v2] W' fun e w' => e = .returned (.bool true) ∧ Below W'.heap.size W' w' := by
  subst hW
  obtain ⟨a0, len0, cap0, rfl⟩ := WideShapes.okWide_slice Tryz.underlying22 hv0
  obtain ⟨fuel0, hf0⟩ := h0
  obtain ⟨aa0, cc0, l0, ps0, hcs0, hC0, hll0, ht0⟩ := open_classes hf0
  simp only [Value.cells, List.cons.injEq, and_true] at hcs0
  rw [hcs0]
  obtain ⟨f1, q1, rfl, hfr1, hfb1⟩ := open_frameV hv1 h1
  obtain ⟨f2, q2, rfl, hfr2, hfb2⟩ := open_frameV hv2 h2
  simp only [Rows.uptoBulkAll, Rows.uptoBulk] at hbulk
  exact frameUp_go l0 ps0 aa0 cc0 f1 f2 q1 q2 W' hC0 (forms_of_laid hL (by kernel_rfl)) (ht0 (by omega)) hfr1 hfr2 (hfb1 (by omega)) (hfb2 (by omega))
end Go.Proofs.YtpkhfcbkadkadaaGreatDoor
