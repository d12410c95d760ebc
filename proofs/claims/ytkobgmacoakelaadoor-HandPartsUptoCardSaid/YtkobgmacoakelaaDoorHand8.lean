/-
  The walks of hand.Type and hand.Size: exact.
-/
import Derived.Test.YtkobgmacoakelaaDoorHand7
namespace Go.Proofs.YtkobgmacoakelaaDoor
set_option linter.unusedVariables false
set_option linter.unusedSimpArgs false
open Go.RowKit Go.Shelf Go.Lib

noncomputable def typeF (h : Hd) : Int × List UInt8 := if 30 < h.size then (4, []) else h.typed
def sizeN (h : Hd) : Int := (h.size : Int)
noncomputable def sizeF (h : Hd) : Int := if (typeF h).1 ≠ 0 then 0 else (h.size : Int)
theorem typeF_zero {h : Hd} : (typeF h).1 = 0 ↔ h.size ≤ 30 ∧ h.typed.1 = 0 := by
  unfold typeF
  split
  · constructor
    · intro h; exact absurd h (by decide)
    · intro h; omega
  · constructor
    · intro h; exact ⟨by omega, h⟩
    · intro h; exact h.2

set_option maxRecDepth 100000 in
set_option maxHeartbeats 1000000 in
theorem type_calls {w0 : World} {h : Hd} (H : HdOk w0 h) (w : World) (hb : Below w0.heap.size w0 w) : Calls Tryd.prog 6 #[hdV h] w (Exact w (typeF h)) := by
  have HC := Lib.hid (fun w' (hb : Below w0.heap.size w0 w') => count_calls H 30 30 w' rfl (by omega) hb)
  have HT := Lib.hid (fun w' (hb : Below w0.heap.size w0 w') => typed_calls H w' hb)
  have HB := Lib.hid hb
  have hs0 := hb.size
  unfold hdV at *
  have hbox : BoxAt (w.alloc (.cells #[.int .i64 h.kind, .string ⟨⟨h.ty⟩⟩, .int .i64 h.a, .slice h.pa h.pos.length h.pc, .slice h.sa h.subs.length h.sc] 25)) w.heap.size h := blk_new _ _ _ _ rfl
  have hal : Below w.heap.size w (w.alloc (.cells #[.int .i64 h.kind, .string ⟨⟨h.ty⟩⟩, .int .i64 h.a, .slice h.pa h.pos.length h.pc, .slice h.sa h.subs.length h.sc] 25)) := bl_alloc (Below.refl _ _) _
  have HX := Lib.hid hbox
  have HAL := Lib.hid hal
  have HBA := Lib.hid (hb.trans (hal.mono hs0))
  clear hb hbox hal H
  by_cases h30 : 30 < h.size
  · have HR := Lib.hid (show typeF h = (4, []) by unfold typeF; rw [if_pos h30])
    have hN : cntF 30 h.size = 31 := by unfold cntF; omega
    rw [hN] at HC
    clear h30 hN HT
    go_enter Tryd.func6, Tryd.ntmps6
    go_wp2_with fail
    refine (HC.out _ HBA.out).mono ?_
    rintro e w1 ⟨rfl, hb1⟩
    have HB1 := Lib.hid (bl_trans HAL.out hb1)
    clear hb1
    go_wp2_with fail
    go_ret2
    exact ⟨by rw [HR.out]; rfl, HB1.out⟩
  · have HR := Lib.hid (show typeF h = h.typed by unfold typeF; rw [if_neg h30])
    have hN : cntF 30 h.size = h.size := by unfold cntF; omega
    rw [hN] at HC
    generalize h.size = n at *
    clear hN
    unfold Exact at HT
    go_enter Tryd.func6, Tryd.ntmps6
    go_wp2_with fail
    refine (HC.out _ HBA.out).mono ?_
    rintro e w1 ⟨rfl, hb1⟩
    have HB1 := Lib.hid (bl_trans HAL.out hb1)
    have HBB := Lib.hid (HBA.out.trans (hb1.mono (by simp; omega)))
    obtain ⟨e0, e1, e2, e3, e4⟩ := (HX.out.below hb1).cells
    clear hb1
    go_wp2_with fail
    refine (HT.out _ HBB.out).mono ?_
    rintro e w2 ⟨rfl, hb2⟩
    have HB2 := Lib.hid (bl_trans HB1.out hb2)
    clear hb2
    generalize h.typed = r at *
    go_wp2_with fail
    go_ret2
    exact ⟨by rw [HR.out]; rfl, HB2.out⟩

def SizeRes (w : World) (h : Hd) (e : Ending) (w' : World) : Prop := e = .returned (.tuple #[.int .i64 (sizeF h), errH (typeF h).1]) ∧ Below w.heap.size w w'

set_option maxRecDepth 100000 in
set_option maxHeartbeats 1000000 in
theorem size_calls {w0 : World} {h : Hd} (H : HdOk w0 h) (w : World) (hb : Below w0.heap.size w0 w) : Calls Tryd.prog 5 #[hdV h] w (SizeRes w h) := by
  have HC := Lib.hid (fun w' (hb : Below w0.heap.size w0 w') => count_calls H 30 30 w' rfl (by omega) hb)
  have HT := Lib.hid (fun w' (hb : Below w0.heap.size w0 w') => type_calls H w' hb)
  have hs0 := hb.size
  have hz := @typeF_zero h
  unfold hdV at *
  unfold Exact at HT
  have hbox : BoxAt (w.alloc (.cells #[.int .i64 h.kind, .string ⟨⟨h.ty⟩⟩, .int .i64 h.a, .slice h.pa h.pos.length h.pc, .slice h.sa h.subs.length h.sc] 25)) w.heap.size h := blk_new _ _ _ _ rfl
  have hal : Below w.heap.size w (w.alloc (.cells #[.int .i64 h.kind, .string ⟨⟨h.ty⟩⟩, .int .i64 h.a, .slice h.pa h.pos.length h.pc, .slice h.sa h.subs.length h.sc] 25)) := bl_alloc (Below.refl _ _) _
  have HX := Lib.hid hbox
  have HAL := Lib.hid hal
  have HBA := Lib.hid (hb.trans (hal.mono hs0))
  clear hb hbox hal H
  by_cases h0 : (typeF h).1 = 0
  · have HR := Lib.hid (show sizeF h = (h.size : Int) by unfold sizeF; rw [if_neg (by simpa using h0)])
    have h30 := (hz.1 h0).1
    have HZ := Lib.hid h0
    have hN : cntF 30 h.size = h.size := by unfold cntF; omega
    rw [hN] at HC
    rw [h0, errH_zero] at HT
    clear hN hz h30 h0
    generalize h.size = n at *
    go_enter Tryd.func5, Tryd.ntmps5
    go_wp2_with fail
    refine (HT.out _ HBA.out).mono ?_
    rintro e w1 ⟨rfl, hb1⟩
    have HB1 := Lib.hid (bl_trans HAL.out hb1)
    have HBB := Lib.hid (HBA.out.trans (hb1.mono (by simp; omega)))
    obtain ⟨e0, e1, e2, e3, e4⟩ := (HX.out.below hb1).cells
    clear hb1
    go_wp2_with fail
    refine (HC.out _ HBB.out).mono ?_
    rintro e w2 ⟨rfl, hb2⟩
    have HB2 := Lib.hid (bl_trans HB1.out hb2)
    clear hb2
    go_wp2_with fail
    go_ret2
    exact ⟨by rw [HR.out, HZ.out]; rfl, HB2.out⟩
  · have HR := Lib.hid (show sizeF h = 0 by unfold sizeF; rw [if_pos h0])
    rw [errH_pos h0] at HT
    have hzv := errH_pos h0
    clear HC hz
    obtain ⟨z, hze⟩ : ∃ z, z = (typeF h).1 := ⟨_, rfl⟩
    rw [← hze] at HT
    have HZ := Lib.hid (show errH (typeF h).1 = errV z by rw [hzv, hze])
    generalize (typeF h).2 = y at *
    clear h0 hzv hze
    go_enter Tryd.func5, Tryd.ntmps5
    go_wp2_with fail
    refine (HT.out _ HBA.out).mono ?_
    rintro e w1 ⟨rfl, hb1⟩
    have HB1 := Lib.hid (bl_trans HAL.out hb1)
    clear hb1
    go_wp2_with fail
    go_ret2
    exact ⟨by rw [HR.out, HZ.out]; rfl, HB1.out⟩
end Go.Proofs.YtkobgmacoakelaaDoor
