/-
  The walks of ref, array.
-/
import Derived.Test.YtanjggdmgeedlaaGreatDoorStp2
import Derived.Lib.QuietBelow
import Derived.BigQuiet
import Derived.Deep.QuietTactic
namespace Go.Proofs.YtanjggdmgeedlaaGreatDoor
set_option linter.unusedVariables false
set_option linter.unusedSimpArgs false
open Go.RowKit Go.Shelf Go.Lib Go.Sort

theorem ref_none {f : FrR} (h : popF f = none) : refF f = none := by unfold refF; rw [h]; rfl
theorem ref_no {f g : FrR} {k : Nm} (h : popF f = some (k, g)) (hq : ((k == [78]) || refsB k) = false) : refF f = none := by unfold refF; rw [h]; simp only [Option.elim_some]; rw [hq]; rfl
theorem ref_yes {f g : FrR} {k : Nm} (h : popF f = some (k, g)) (hq : ((k == [78]) || refsB k) = true) : refF f = some (k, g) := by unfold refF; rw [h]; simp only [Option.elim_some]; rw [hq]; rfl
theorem KOk.ref {L : List ClassR} {f g : FrR} {k : Nm} (h : KOk L f) (hp : refF f = some (k, g)) : KOk L g ∧ kindErr L k = 0 ∧ g.loc = f.loc ∧ ((k == [78]) || refsB k) = true := by
  cases hq : popF f with
  | none => rw [ref_none hq] at hp; cases hp
  | some p =>
    obtain ⟨k2, g2⟩ := p
    cases hr : ((k2 == [78]) || refsB k2) with
    | false => rw [ref_no hq hr] at hp; cases hp
    | true =>
      rw [ref_yes hq hr] at hp
      simp only [Option.some.injEq, Prod.mk.injEq] at hp
      obtain ⟨rfl, rfl⟩ := hp
      obtain ⟨h1, h2, h3⟩ := h.pop hq
      exact ⟨h1, h2, h3, hr⟩

set_option maxRecDepth 100000 in
set_option maxHeartbeats 2000000 in
theorem ref_calls (L : List ClassR) (b c B : Nat) (fr gv : Nm) (f : FrR) (w : World) (hs : Stp L w B c b fr gv f) :
    Calls Tryz.prog 127 #[.pointer (some ⟨c, 0, none⟩)] w (PopRes L (refF f) B c b fr gv w) := by
  cases hp : popF f with
  | none =>
    have HP := Lib.hid (pop_none L b c B fr gv f w hs hp)
    rw [ref_none hp]
    clear hs hp
    go_enter Tryz.func127, Tryz.ntmps127
    go_wp2_with fail
    refine HP.out.mono ?_
    rintro e w2 ⟨rfl, hg⟩
    have HG := Lib.hid hg
    clear hg
    go_wp2_with fail
    exact ⟨rfl, HG.out, Or.inl ⟨rfl, rfl⟩⟩
  | some p =>
    obtain ⟨k, g⟩ := p
    have HP := Lib.hid (pop_some L b c B fr gv f g k w hs hp)
    have HRF := Lib.hid (fun w => refs_calls k w)
    have HPP := Lib.hid hp
    clear hs hp
    by_cases hk : k = [78]
    · subst hk
      rw [ref_yes HPP.out rfl]
      go_enter Tryz.func127, Tryz.ntmps127
      go_wp2_with fail
      refine HP.out.mono ?_
      rintro e w2 ⟨rfl, hg, hst⟩
      have HG := Lib.hid hg
      have HST := Lib.hid hst
      clear hg hst
      go_wp2_with fail
      refine (need_true _).mono ?_
      rintro e w3 ⟨rfl, rfl⟩
      go_wp2_with fail
      go_ret
      exact ⟨HG.out, Or.inr ⟨_, g, rfl, rfl, HST.out⟩⟩
    · have hq : (k == [78]) = false := by rw [beq_eq_false_iff_ne]; exact hk
      cases hr : refsB k with
      | true =>
        rw [ref_yes HPP.out (by rw [hq, hr]; rfl)]
        rw [hr] at HRF
        clear hr hk
        go_enter Tryz.func127, Tryz.ntmps127
        go_wp2_with fail
        refine HP.out.mono ?_
        rintro e w2 ⟨rfl, hg, hst⟩
        have HG := Lib.hid hg
        have HST := Lib.hid hst
        clear hg hst
        go_wp2_with fail
        refine (HRF.out _).mono ?_
        rintro e w3 ⟨rfl, hb3⟩
        have HB3 := Lib.hid hb3
        clear hb3
        go_wp2_with fail
        refine (need_true _).mono ?_
        rintro e w4 ⟨rfl, rfl⟩
        go_wp2_with fail
        go_ret
        exact ⟨by first | exact gb_below HG.out HB3.out | (rw [HB3.out] at HG; exact HG.out) | (rw [← HB3.out]; exact HG.out), Or.inr ⟨k, g, rfl, rfl, by first | exact HST.out.below HB3.out | (rw [← HB3.out]; exact HST.out) | (rw [HB3.out]; exact HST.out)⟩⟩
      | false =>
        rw [ref_no HPP.out (by rw [hq, hr]; rfl)]
        rw [hr] at HRF
        clear hr hk
        go_enter Tryz.func127, Tryz.ntmps127
        go_wp2_with fail
        refine HP.out.mono ?_
        rintro e w2 ⟨rfl, hg, hst⟩
        have HG := Lib.hid hg
        clear hg hst
        go_wp2_with fail
        refine (HRF.out _).mono ?_
        rintro e w3 ⟨rfl, hb3⟩
        have HB3 := Lib.hid hb3
        clear hb3
        go_wp2_with fail
        refine (need_false _).mono ?_
        rintro e w4 ⟨rfl, rfl⟩
        go_wp2_with fail
        exact ⟨rfl, by first | exact gb_below HG.out HB3.out | (rw [← HB3.out]; exact HG.out) | (rw [HB3.out]; exact HG.out), Or.inl ⟨rfl, rfl⟩⟩

theorem srow_new1 (W : World) (t : Nm) : SRow (W.alloc (.cells #[.string ⟨⟨t⟩⟩] 9)) (some ⟨W.heap.size, 0, none⟩) 1 [t] :=
  ⟨Nat.le_refl _, Or.inr ⟨_, 0, rfl, by simp, fun j x hx => by
    cases j with
    | zero =>
      simp only [List.getElem?_cons_zero, Option.some.injEq] at hx
      subst hx
      exact (blk_new W _ 9 #[.string ⟨⟨t⟩⟩] rfl).cell 0
    | succ j => simp at hx⟩⟩
theorem srow_new2 (W : World) (t u : Nm) : SRow (W.alloc (.cells #[.string ⟨⟨t⟩⟩, .string ⟨⟨u⟩⟩] 9)) (some ⟨W.heap.size, 0, none⟩) 2 [t, u] :=
  ⟨Nat.le_refl _, Or.inr ⟨_, 0, rfl, by simp, fun j x hx => by
    match j with
    | 0 =>
      simp only [List.getElem?_cons_zero, Option.some.injEq] at hx
      subst hx
      exact (blk_new W _ 9 #[.string ⟨⟨t⟩⟩, .string ⟨⟨u⟩⟩] rfl).cell 0
    | 1 =>
      simp only [List.getElem?_cons_succ, List.getElem?_cons_zero, Option.some.injEq] at hx
      subst hx
      exact (blk_new W _ 9 #[.string ⟨⟨t⟩⟩, .string ⟨⟨u⟩⟩] rfl).cell 1
    | j + 2 => simp at hx⟩⟩
/-- take of one text, of two: the row laid by the call itself -/
theorem take1 (l : List ClassR) (L : List CP) (b c : Nat) (fr gv : Nm) (f : FrR) (t : Nm) (w0 w : World) (hW : WOk w0 b l L) (hb : Below w0.heap.size w0 w) (hs : Stp (wl l) w w0.heap.size c b fr gv f) (ht : t.length ≤ 8388608) :
    Calls Tryz.prog 125 #[.pointer (some ⟨c, 0, none⟩), .slice (some ⟨w.heap.size, 0, none⟩) 1 1] (w.alloc (.cells #[.string ⟨⟨t⟩⟩] 9)) (fun e w' => w.grownBy w' (some c) ∧ ((takeF (wl l) [t] f = none ∧ e = .panicked unfitP) ∨ ∃ g, takeF (wl l) [t] f = some g ∧ e = .returned (.tuple #[]) ∧ Stp (wl l) w' w0.heap.size c b fr gv g)) := by
  have hal : Below w.heap.size w (w.alloc (.cells #[.string ⟨⟨t⟩⟩] 9)) := bl_alloc (Below.refl _ _) _
  refine (take_calls l L b c w0.heap.size fr gv f [t] (some ⟨w.heap.size, 0, none⟩) 1 w0 _ hW rfl (hb.trans (hal.mono hb.size)) (hs.below hal) (srow_new1 w t) (fun ad e => by simp only [Option.some.injEq] at e; subst e; have := hs.lt; show w.heap.size ≠ c; omega) (by simp) (by simpa using ht)).mono ?_
  rintro e w' ⟨hg, h⟩
  exact ⟨gb_trans (gb_below (gb_refl w c) hal) hg, h⟩
theorem take2 (l : List ClassR) (L : List CP) (b c : Nat) (fr gv : Nm) (f : FrR) (t u : Nm) (w0 w : World) (hW : WOk w0 b l L) (hb : Below w0.heap.size w0 w) (hs : Stp (wl l) w w0.heap.size c b fr gv f) (ht : t.length ≤ 8388608) (hu : u.length ≤ 8388608) :
    Calls Tryz.prog 125 #[.pointer (some ⟨c, 0, none⟩), .slice (some ⟨w.heap.size, 0, none⟩) 2 2] (w.alloc (.cells #[.string ⟨⟨t⟩⟩, .string ⟨⟨u⟩⟩] 9)) (fun e w' => w.grownBy w' (some c) ∧ ((takeF (wl l) [t, u] f = none ∧ e = .panicked unfitP) ∨ ∃ g, takeF (wl l) [t, u] f = some g ∧ e = .returned (.tuple #[]) ∧ Stp (wl l) w' w0.heap.size c b fr gv g)) := by
  have hal : Below w.heap.size w (w.alloc (.cells #[.string ⟨⟨t⟩⟩, .string ⟨⟨u⟩⟩] 9)) := bl_alloc (Below.refl _ _) _
  refine (take_calls l L b c w0.heap.size fr gv f [t, u] (some ⟨w.heap.size, 0, none⟩) 2 w0 _ hW rfl (hb.trans (hal.mono hb.size)) (hs.below hal) (srow_new2 w t u) (fun ad e => by simp only [Option.some.injEq] at e; subst e; have := hs.lt; show w.heap.size ≠ c; omega) (by simp) (by simp; exact ⟨ht, hu⟩)).mono ?_
  rintro e w' ⟨hg, h⟩
  exact ⟨gb_trans (gb_below (gb_refl w c) hal) hg, h⟩

/-- a panic borne by the region tactic: it goes on as if, under a false premise -/
theorem pan_on {K : Act → World → Prop} {S : World → Prop} {R : Act → World → Prop} {c : Nat} {w3 : World} {a : Act} {w : World} (hK : Shut (∀ a w, S w → (S w → R a w) → K a w)) (hp : PanQ c w3 (.panic unfitP) a w) (_ : False → K a w) : PanQ c w3 (.panic unfitP) a w := hp

noncomputable def ArrD (L : List ClassR) (k t : Nm) : Bool := (k == [78]) || ((k.head? == some 91) && doesX L k.tail t && (refsB k.tail == refsB t))
theorem arr_bad {L : List ClassR} {t : Nm} {f : FrR} (h : kindErr L t ≠ 0) : arrF L t f = none := by unfold arrF; rw [if_pos h]
theorem arr_t {L : List ClassR} {t : Nm} {f : FrR} (h : takeF L [[73]] f = none) : arrF L t f = none := by unfold arrF; rw [h]; split <;> rfl
theorem arr_r {L : List ClassR} {t : Nm} {f g : FrR} (h : takeF L [[73]] f = some g) (hr : refF g = none) : arrF L t f = none := by unfold arrF; rw [h]; simp only [Option.elim_some]; rw [hr]; split <;> rfl
end Go.Proofs.YtanjggdmgeedlaaGreatDoor
