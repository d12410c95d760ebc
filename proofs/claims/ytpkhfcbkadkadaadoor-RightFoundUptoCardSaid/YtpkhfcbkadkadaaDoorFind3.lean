/-
  The walk of find.Method.
-/
import Derived.Test.YtpkhfcbkadkadaaDoorFind2
namespace Go.Proofs.YtpkhfcbkadkadaaDoor
set_option linter.unusedVariables false
set_option linter.unusedSimpArgs false
open Go.RowKit Go.Shelf Go.Lib

open Classical in
noncomputable def fndErr (l : List ClassR) (c n k : Nm) : Int := if withErr l c ≠ 0 then withErr l c else if methOf (wl l) c n k = none then 3 else 0
/-- a method without its lists -/
def bareM (m : MethR) : MethR := { m with code := [], hs := [] }
def FndRes (l : List ClassR) (c n k : Nm) (w : World) (e : Ending) (w' : World) : Prop :=
  Below w.heap.size w w' ∧ ((fndErr l c n k ≠ 0 ∧ e = .returned (.tuple #[.string ⟨#[]⟩, methV zeroMR nilM, errV (fndErr l c n k)])) ∨
    ∃ x m, withErr l c = 0 ∧ methOf (wl l) c n k = some (x, m) ∧ e = .returned (.tuple #[.string ⟨⟨x⟩⟩, methV (bareM m) nilM, .nilIface]))
theorem fnd_zero {l : List ClassR} {c n k x : Nm} {m : MethR} (h : withErr l c = 0) (h2 : methOf (wl l) c n k = some (x, m)) : fndErr l c n k = 0 := by
  unfold fndErr
  rw [if_neg (by simp [h]), if_neg (by rw [h2]; simp)]

set_option maxRecDepth 100000 in
set_option maxHeartbeats 2000000 in
theorem method_calls_find (l : List ClassR) (ps : List CAddr) (a : Option Addr) (cap : Nat) (c n k : Nm) (w : World) (hC : ClassesAt w a cap l ps) (hF : FormsAt w) (hB : ClsOk l) (hc : c.length ≤ 1048576) :
    Calls Tryd.prog 14 #[.slice a l.length cap, .string ⟨⟨c⟩⟩, .string ⟨⟨n⟩⟩, .string ⟨⟨k⟩⟩] w (FndRes l c n k w) := by
  have HC := Lib.hid hC
  have HF := Lib.hid hF
  have HB := Lib.hid hB
  clear hC hF hB
  have hb0 : ∀ o, Below w.heap.size w (w.alloc o) := fun o => (Below.refl _ _).alloc (Nat.le_refl _) o
  have HB0 := Lib.hid hb0
  clear hb0
  go_enter Tryd.func14, Tryd.ntmps14
  go_wp2_with fail
  refine (with_w l ps a cap c _ (HC.out.below (HB0.out _)) (HF.out.below (HB0.out _)) HB.out hc).mono ?_
  rintro e w2 ⟨hb2, hr⟩
  have HZ2 := Lib.hid (show Blk w2 w.heap.size 46 (mArr zeroMR nilM) from (blk_new w w.heap.size 46 (mArr zeroMR nilM) rfl).below hb2)
  have HB2 := Lib.hid (bl_trans (HB0.out _) hb2)
  have hs2 := HB2.out.size
  have hz2 := HZ2.out.lt
  clear hb2
  rcases hr with ⟨hne, rfl⟩ | ⟨h0, hn, b, rfl, hw⟩
  · have HE := Lib.hid (show fndErr l c n k = withErr l c by unfold fndErr; rw [if_pos hne])
    have HNE := Lib.hid hne
    generalize withErr l c = z at *
    clear hne
    go_wp2_with (refine wpList_store_blk (x := .tmp 9) (y := .tmp 24) (ty := 46) (g := w.heap.size) (cells := mArr zeroMR nilM) (by rfl) (by rfl) (by rfl) (by rfl) HZ2.out info_meth rfl (mArr_one zeroMR nilM) ?_)
    intro W2 hbk hgr
    obtain ⟨d0, d1, d2, d3, d4, d5, d6, d7⟩ := mblk_cells hbk
    have HB9 := Lib.hid (below_grown HB2.out hgr (Nat.le_refl _) hs2)
    clear hbk hgr
    go_wp2_with fail
    exact bodyPost_ret (v := .tuple #[.string ⟨#[]⟩, methV zeroMR nilM, errV z]) (by simp [results, Tryd.results14, go_sem, d0, d1, d2, d3, d4, d5, d6, d7, methV]) rfl ⟨HB9.out, Or.inl ⟨by rw [HE.out]; exact HNE.out, by rw [HE.out]⟩⟩
  · have HW := Lib.hid hw
    have H0 := Lib.hid h0
    clear hw h0 hn
    go_wp2_with fail
    refine (mof_calls l (wcp l ps) b c n k _ HW.out hc).mono ?_
    rintro e w4 ⟨hb4, ⟨hn, rfl⟩ | ⟨x, m, q, hm, _, rfl⟩⟩
    · have HE := Lib.hid (show fndErr l c n k = 3 by unfold fndErr; rw [if_neg (by rw [H0.out]; simp), if_pos hn])
      have HB4 := Lib.hid (HB2.out.trans (hb4.mono hs2))
      have HZ4 := Lib.hid (HZ2.out.below hb4)
      have hs4 := hb4.size
      clear hb4 hn
      unfold methV
      go_wp2_with (refine wpList_store_blk (x := .tmp 9) (y := .tmp 37) (ty := 46) (g := w.heap.size) (cells := mArr zeroMR nilM) (by rfl) (by rfl) (by rfl) (by rfl) (HZ4.out.below ((Below.refl _ _).alloc (Nat.le_refl _) _)) info_meth rfl (mArr_one zeroMR nilM) ?_)
      intro W2 hbk hgr
      obtain ⟨d0, d1, d2, d3, d4, d5, d6, d7⟩ := mblk_cells hbk
      have HB9 := Lib.hid (below_grown (HB4.out.alloc (by omega) _) hgr (Nat.le_refl _) (by simp; omega))
      clear hbk hgr
      go_wp2_with fail
      exact bodyPost_ret (v := .tuple #[.string ⟨#[]⟩, methV zeroMR nilM, errV 3]) (by simp [results, Tryd.results14, go_sem, d0, d1, d2, d3, d4, d5, d6, d7, methV]) rfl ⟨HB9.out, Or.inl ⟨by rw [HE.out]; omega, by rw [HE.out]⟩⟩
    · have HM := Lib.hid hm
      have HB4 := Lib.hid (HB2.out.trans (hb4.mono hs2))
      have HZ4 := Lib.hid (HZ2.out.below hb4)
      have hs4 := hb4.size
      clear hb4 hm
      unfold methV
      go_wp2_with fail
      refine wp_tail 3 (by kernel_rfl) (by kernel_rfl) ?_
      simp only [List.take_succ_cons, List.take_zero, List.drop_succ_cons, List.drop_zero]
      repeat still_step
      refine wpStill_nil ?_
      go_wp2_with (refine wpList_store_blk (x := .tmp 9) (y := .tmp 42) (ty := 46) (g := w.heap.size) (cells := mArr (bareM m) nilM) (by rfl) (by rfl) (by rfl) (by rfl) (HZ4.out.below ((Below.refl _ _).alloc (Nat.le_refl _) _)).drew info_meth rfl (mArr_one (bareM m) nilM) ?_)
      intro W2 hbk hgr
      obtain ⟨d0, d1, d2, d3, d4, d5, d6, d7⟩ := mblk_cells hbk
      have HB9 := Lib.hid (below_grown (HB4.out.alloc (by omega) _).drew hgr (Nat.le_refl _) (by simp; omega))
      clear hbk hgr
      go_wp2_with fail
      exact bodyPost_ret (v := .tuple #[.string ⟨⟨x⟩⟩, methV (bareM m) nilM, .nilIface]) (by simp [results, Tryd.results14, go_sem, d0, d1, d2, d3, d4, d5, d6, d7, methV]) rfl ⟨HB9.out, Or.inr ⟨x, m, H0.out, HM.out, rfl⟩⟩
end Go.Proofs.YtpkhfcbkadkadaaDoor
