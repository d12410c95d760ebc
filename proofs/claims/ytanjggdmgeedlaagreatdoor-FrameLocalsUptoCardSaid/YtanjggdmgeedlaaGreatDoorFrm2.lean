/-
  The walk of frame.check.
-/
import Derived.Test.YtanjggdmgeedlaaGreatDoorFrm1
import Derived.Test.YtanjggdmgeedlaaGreatDoorPFrm
import Derived.Test.YtanjggdmgeedlaaGreatDoorKind1
namespace Go.Proofs.YtanjggdmgeedlaaGreatDoor
set_option linter.unusedVariables false
set_option linter.unusedSimpArgs false
open Go.RowKit Go.Shelf Go.Lib

structure FAddr where
  la : Option Addr
  lc : Nat
  sa : Option Addr
  sc : Nat
def frV (f : FrR) (p : FAddr) : Value := .agg #[.slice p.la f.loc.length p.lc, .slice p.sa f.st.length p.sc]
def FrAt (W : World) (f : FrR) (p : FAddr) : Prop := SRow W p.la p.lc f.loc ∧ SRow W p.sa p.sc f.st
theorem FrAt.below {w w' : World} {f : FrR} {p : FAddr} (h : FrAt w f p) (hb : Below w.heap.size w w') : FrAt w' f p := ⟨h.1.below hb, h.2.below hb⟩
/-- a frame's texts are not too long -/
def FrB (f : FrR) : Prop := ∀ x ∈ f.loc ++ f.st, x.length ≤ 8388608

def ChkRes (err : Int) (w : World) (e : Ending) (w' : World) : Prop := e = .returned (errOf err) ∧ Below w.heap.size w w'

set_option maxRecDepth 100000 in
set_option maxHeartbeats 4000000 in
theorem fcheck_calls (l : List ClassR) (L : List CP) (b : Nat) (f : FrR) (p : FAddr) (w : World) (hW : WOk w b l L) (hf : FrAt w f p) (hB : FrB f) :
    Calls Tryz.prog 36 #[.map (some b), frV f p] w (ChkRes (chkErr (wl l) f) w) := by
  have HW := Lib.hid hW
  have HFB := Lib.hid hB
  obtain ⟨hf1, hf2⟩ := hf
  have HF1 := Lib.hid hf1
  have HF2 := Lib.hid hf2
  obtain ⟨A, B⟩ := f
  obtain ⟨la, lc, sa, sc⟩ := p
  dsimp only at *
  clear hW hB hf1 hf2
  unfold frV
  dsimp only
  by_cases h1 : 8 < A.length
  · have HE := Lib.hid (show chkErr (wl l) ⟨A, B⟩ = 4 from by unfold chkErr; rw [if_pos (Or.inl h1)])
    rw [HE.out]
    have h1' : (A.length : Int) > 8 := by omega
    go_enter Tryz.func36, Tryz.ntmps36
    go_wp2_with fail
    go_ret
    exact ⟨rfl, (Below.refl _ _).alloc (Nat.le_refl _) _⟩
  have h1' : ¬ ((A.length : Int) > 8) := by omega
  by_cases h2 : 8 < B.length
  · have HE := Lib.hid (show chkErr (wl l) ⟨A, B⟩ = 4 from by unfold chkErr; rw [if_pos (Or.inr h2)])
    rw [HE.out]
    have h2' : (B.length : Int) > 8 := by omega
    go_enter Tryz.func36, Tryz.ntmps36
    go_wp2_with fail
    go_ret
    exact ⟨rfl, (Below.refl _ _).alloc (Nat.le_refl _) _⟩
  have h2' : ¬ ((B.length : Int) > 8) := by omega
  have HE := Lib.hid (show chkErr (wl l) ⟨A, B⟩ = kindsErr (wl l) (A ++ B) from by unfold chkErr; rw [if_neg (by simp only; omega)])
  rw [HE.out]
  have hla : A.length ≤ 8 := by omega
  have hlb : B.length ≤ 8 := by omega
  clear h1 h2
  go_enter Tryz.func36, Tryz.ntmps36
  go_wp2_with fail
  have hbA : Below w.heap.size w (w.alloc (Obj.cells #[Value.slice la A.length lc, Value.slice sa B.length sc] 48)) := (Below.refl _ _).alloc (Nat.le_refl _) _
  have hbB := bl_alloc hbA (Obj.cells #[Value.slice la A.length lc, Value.slice sa B.length sc] 46)
  have hd := blk_new (w.alloc (Obj.cells #[Value.slice la A.length lc, Value.slice sa B.length sc] 48)) (w.heap.size + 1) 46 #[Value.slice la A.length lc, Value.slice sa B.length sc] (by simp)
  refine (concat_calls A B la sa lc sc _ _ (HF1.out.below hbB) (HF2.out.below hbB) hd.lt (hd.cell 0) (hd.cell 1) (by omega) (by omega)).mono ?_
  rintro e w2 ⟨v2, rfl, ho2, hb2⟩
  have HB2 := Lib.hid (bl_trans hbB hb2)
  rw [← List.length_append] at ho2
  obtain ⟨ra, rc, rfl, hr⟩ := srow_of_own ho2
  have HR := Lib.hid hr
  have hlab : (A ++ B).length ≤ 16 := by simp; omega
  clear hbA hbB hd ho2 hb2 hr HF1 HF2 hla hlb h1' h2' HE
  unfold FrB at HFB
  dsimp only at HFB
  generalize A ++ B = C at *
  go_wp2_with fail
  go_loopw [26] (fun i wr => ∃ k : Nat, k ≤ C.length ∧ i = .int .i64 k ∧ Below w.heap.size w wr ∧ Below w2.heap.size w2 wr ∧ Hid (∀ y ∈ C.take k, kindErr (wl l) y = 0)) (fun i _ => C.length - (RowKit.intOf i).toNat)
  case atStart => exact ⟨0, by omega, rfl, HB2.out, Below.refl _ _, Lib.hid (by simp)⟩
  case round =>
    obtain ⟨k, hk, rfl, hb3, hb23, HK⟩ := hrel
    have HB3 := Lib.hid hb3
    have HB23 := Lib.hid hb23
    by_cases hlk : k < C.length
    · obtain ⟨z, hz⟩ : ∃ z, C[k]? = some z := ⟨_, List.getElem?_eq_getElem hlk⟩
      obtain ⟨b1, off, rfl, hlt, c0⟩ := strs_cell (HR.out.below hb23) hz
      have hj0 : (0 : Int) ≤ (k : Int) := Int.natCast_nonneg _
      have hji : (k : Int) < (C.length : Int) := by omega
      have HKC := Lib.hid (kind_calls l L b z _ (HW.out.below hb3) (HFB.out z (List.mem_of_getElem? hz)))
      have HZ := Lib.hid hz
      clear hb3 hb23 hz
      go_wp2_with fail
      refine HKC.out.mono ?_
      rintro e w4 ⟨rfl, hb4⟩
      have HB4 := Lib.hid (bl_trans HB3.out hb4)
      have HB24 := Lib.hid (bl_trans HB23.out hb4)
      clear hb4
      by_cases hz0 : kindErr (wl l) z = 0
      · have HK2 := Lib.hid (take_all_succ (P := fun y => kindErr (wl l) y = 0) HK.out HZ.out hz0)
        rw [hz0, errOf_zero]
        clear hz0
        go_wp2_with fail
        go_roundw
        case rel => exact ⟨k + 1, by omega, by go_num, HB4.out, HB24.out, HK2⟩
        case measure => simp [RowKit.intOf]; omega
      · have HE := Lib.hid (kindsErr_at HK.out HZ.out hz0)
        rw [errOf_ne hz0]
        have HNZ := Lib.hid hz0
        generalize kindErr (wl l) z = q at *
        clear hz0
        go_wp2_with fail
        go_ret
        exact ⟨by rw [HE.out, errOf_ne HNZ.out]; rfl, HB4.out⟩
    · obtain rfl : k = C.length := by omega
      have HE := Lib.hid (show kindsErr (wl l) C = 0 from kindsErr_zero.2 (by have := HK.out; rwa [List.take_length] at this))
      go_wp2_with fail
      go_ret
      exact ⟨by rw [HE.out, errOf_zero]; rfl, HB3.out⟩
end Go.Proofs.YtanjggdmgeedlaaGreatDoor
