/-
  The walk of frame.Below at any frames: exact.
-/
import Derived.Test.YtfddgdbebhmcnaaGreatDoorFrm4
import Derived.Test.YtfddgdbebhmcnaaGreatDoorFa
namespace Go.Proofs.YtfddgdbebhmcnaaGreatDoor
set_option linter.unusedVariables false
set_option linter.unusedSimpArgs false
open Go.RowKit Go.Shelf Go.Lib
set_option maxRecDepth 100000 in
set_option maxHeartbeats 2000000 in
theorem below_any (l : List ClassR) (ps : List CAddr) (a : Option Addr) (cap : Nat) (fa fb : FrR) (pa pb : FAddr) (w : World) (hC : ClassesAt w a cap l ps) (hF : FormsAt w) (hB : ClsOk l) (hfa : FrAt w fa pa) (hfb : FrAt w fb pb) (hba : FrB fa) (hbb : FrB fb) :
    Calls Tryz.prog 22 #[.slice a l.length cap, frV fa pa, frV fb pb] w fun e w' => Below w.heap.size w w' ∧
      ((fjErr l fa fb ≠ 0 ∧ e = .returned (.tuple #[.bool false, errV (fjErr l fa fb)])) ∨ (fjErr l fa fb = 0 ∧ e = .returned (.tuple #[.bool (sameB (joinF (wl l) fa fb) fb), .nilIface]))) := by
  have HBB := Hd (fun o1 o2 => bl_alloc (bl_alloc (Below.refl w.heap.size w) o1) o2)
  have HJ := Hd (fun W (hW : Below w.heap.size w W) => fjoin_calls l ps a cap fa fb pa pb W (hC.below hW) (hF.below hW) hB (hfa.below hW) (hfb.below hW) hba hbb)
  have HL0 := Hd (show fjErr l fa fb = 0 → Good l ∧ fa.loc.length ≤ 8 ∧ fa.st.length ≤ 8 ∧ sameSh fa fb from fun h => by
    obtain ⟨h1, hc, _, h4⟩ := fj_zero.1 h
    obtain ⟨⟨n1, n2⟩, _⟩ := chk_zero.1 hc
    exact ⟨(readErr_zero l).1 h1, n1, n2, h4⟩)
  have HA := Hd (fun hg h => @fj_above l hg fa fb h)
  have HSA := Hd (fun f p W (hf : FrAt W f p) (hW : Below w.heap.size w W) h1 h2 => same_any f fb p pb W hf (hfb.below hW) h1 h2)
  unfold FJRes at HJ
  clear hC hF hB hfa hfb hba hbb
  unfold frV at *
  have HD1 := Hd (blk_new (w.alloc (.cells #[.slice pa.la fa.loc.length pa.lc, .slice pa.sa fa.st.length pa.sc] 60)) (w.heap.size + 1) 60 #[.slice pb.la fb.loc.length pb.lc, .slice pb.sa fb.st.length pb.sc] (by simp))
  go_enter Tryz.func22, Tryz.ntmps22
  go_wp2_with fail
  refine (HJ.out _ (HBB.out _ _)).mono ?_
  rintro e w2 ⟨hb2, ⟨hne, rfl⟩ | ⟨h0, p, rfl, hf⟩⟩
  · have HB2 := Hd (bl_trans (HBB.out _ _) hb2)
    have HNE := Hd hne
    clear hb2 hne
    go_wp2_with fail
    go_ret2
    exact ⟨bl_alloc HB2.out _, Or.inl ⟨HNE.out, rfl⟩⟩
  have HB2 := Hd (bl_trans (HBB.out _ _) hb2)
  have HF2 := Hd hf
  have H0 := Hd h0
  obtain ⟨hg, _⟩ := HL0.out h0
  obtain ⟨h1, _⟩ := HA.out hg h0
  obtain ⟨⟨n1, n2⟩, _⟩ := chk_zero.1 (fj_zero.1 h1).2.2.1
  have e0 := (HD1.out.below hb2).cell 0
  have e1 := (HD1.out.below hb2).cell 1
  have e2 := (HD1.out.below hb2).lt
  clear hb2 hf h0 hg h1
  obtain ⟨J, hJ⟩ : ∃ J, J = joinF (wl l) fa fb := ⟨_, rfl⟩
  rw [← hJ] at HF2 n1 n2 ⊢
  have HJE := Hd hJ
  clear hJ
  go_wp2_with fail
  have hb3 := (Below.refl w2.heap.size w2).alloc (Nat.le_refl _) (.cells #[.slice p.la J.loc.length p.lc, .slice p.sa J.st.length p.sc] 60)
  refine (HSA.out J p _ (HF2.out.below hb3) (bl_trans HB2.out hb3) (by omega) (by omega)).mono ?_
  rintro e w4 ⟨rfl, hb4⟩
  have HB4 := Hd (bl_trans (bl_trans HB2.out hb3) hb4)
  clear hb3 hb4
  go_wp2_with fail
  go_ret2
  exact ⟨HB4.out, Or.inr ⟨H0.out, by rw [← HJE.out]; rfl⟩⟩
end Go.Proofs.YtfddgdbebhmcnaaGreatDoor
