/-
  Plain law (no program): heaps of things: what a value holds, what is wrong with a heap.
-/
import Derived.Test.YtanjggdmgeedlaaGreatDoorPKind
import Derived.Test.YtanjggdmgeedlaaGreatDoorPSlots
import Derived.RowKit
namespace Go.Proofs.YtanjggdmgeedlaaGreatDoor
set_option linter.unusedVariables false
set_option linter.unusedSimpArgs false
open Go.Lib Go.RowKit

structure ValR where
  kind : Int
  n : Int
structure ThingR where
  ty : Nm
  has : List ValR

open Classical in
/-- does one text of a kind fit another one -/
noncomputable def doesN (L : List ClassR) (s t : Nm) : Bool := if h : ∃ p : Kd × Kd, s = p.1.text ∧ t = p.2.text then doesK L h.choose.1 h.choose.2 else false
theorem doesN_text (L : List ClassR) (a b : Kd) : doesN L a.text b.text = doesK L a b := by
  have hex : ∃ p : Kd × Kd, a.text = p.1.text ∧ b.text = p.2.text := ⟨(a, b), rfl, rfl⟩
  unfold doesN
  rw [dif_pos hex]
  obtain ⟨h1, h2⟩ := hex.choose_spec
  rw [← text_inj h1, ← text_inj h2]

/-- the class in the type of a thing that is none's array -/
def clsOf (t : Nm) : Nm := (t.drop 1).dropLast
theorem clsOf_thing (n : Nm) : clsOf (Kd.ty 0 (.cls n)).text = n := by simp [clsOf, Kd.text, Bse.text]
/-- the types of what a thing has -/
noncomputable def typesH (L : List ClassR) (x : ThingR) : List Nm := if x.ty.head? = some 91 then List.replicate x.has.length x.ty.tail else (slotsF L (clsOf x.ty)).map (·.2.ty)

/-- does a value hold a type, in a heap with things of these types -/
noncomputable def valB (L : List ClassR) (tys : List Nm) (v : ValR) (t : Nm) : Bool :=
  if v.kind = 1 then t == [73] && decide (v.n = wrap32 v.n)
  else if v.kind = 2 then t == [74]
  else if v.kind = 3 then ((t.head? == some 76 || t.head? == some 91) && decide (0 ≤ v.n ∧ v.n ≤ tys.length)) && (decide (v.n = 0) || doesN L (tys.getD (v.n - 1).toNat []) t)
  else false

open Classical in
/-- what is wrong with a thing's form -/
noncomputable def formErr (L : List ClassR) (x : ThingR) : Int :=
  if ¬ TypeOk x.ty ∨ numB x.ty = true then 1
  else if kindErr L x.ty ≠ 0 then kindErr L x.ty
  else if x.ty.head? = some 76 ∧ (look L (clsOf x.ty)).elim false (·.face) = true then 7
  else if (x.ty.head? = some 91 ∧ 10 < x.has.length) ∨ (typesH L x).length ≠ x.has.length then 8
  else 0
noncomputable def frmErrs (L : List ClassR) (X : List ThingR) (j : Nat) : Int := (X[j]?).elim 0 (formErr L)
/-- does a thing hold what it should -/
noncomputable def thingB (L : List ClassR) (tys : List Nm) (x : ThingR) : Bool := (List.range (typesH L x).length).all fun i => valB L tys (x.has.getD i ⟨0, 0⟩) ((typesH L x).getD i [])
noncomputable def rightErr (L : List ClassR) (X : List ThingR) : Int :=
  if 50 < X.length then 4
  else if firstNZ (frmErrs L X) X.length ≠ 0 then firstNZ (frmErrs L X) X.length
  else if X.all (thingB L (X.map (·.ty))) = true then 0 else 7
/-- what is wrong with classes and a heap -/
noncomputable def hpErr (l : List ClassR) (X : List ThingR) : Int := if readErr l ≠ 0 then readErr l else rightErr (wl l) X

theorem right_zero {L : List ClassR} {X : List ThingR} : rightErr L X = 0 ↔ X.length ≤ 50 ∧ (∀ x ∈ X, formErr L x = 0) ∧ ∀ x ∈ X, thingB L (X.map (·.ty)) x = true := by
  unfold rightErr
  constructor
  · intro h
    split at h
    · omega
    split at h
    · rename_i h1 h2; exact absurd h h2
    rename_i h1 h2
    split at h
    · rename_i h3
      refine ⟨by omega, fun x hx => ?_, fun x hx => List.all_eq_true.1 h3 x hx⟩
      obtain ⟨j, hj⟩ := List.getElem?_of_mem hx
      have := (firstNZ_zero _ _).1 (Classical.not_not.1 h2) j (List.getElem?_eq_some_iff.1 hj).1
      unfold frmErrs at this
      rw [hj] at this
      exact this
    · omega
  · rintro ⟨h1, h2, h3⟩
    rw [if_neg (by omega), if_neg, if_pos (List.all_eq_true.2 h3)]
    intro h
    refine h ((firstNZ_zero _ _).2 fun j hj => ?_)
    unfold frmErrs
    rw [List.getElem?_eq_getElem hj]
    exact h2 _ (List.getElem_mem hj)
theorem hp_zero {l : List ClassR} {X : List ThingR} : hpErr l X = 0 ↔ Good l ∧ rightErr (wl l) X = 0 := by
  unfold hpErr
  constructor
  · intro h
    split at h
    · rename_i h1; exact absurd h h1
    · rename_i h1; exact ⟨(readErr_zero l).1 (Classical.not_not.1 h1), h⟩
  · rintro ⟨h1, h2⟩
    rw [if_neg (by rw [(readErr_zero l).2 h1]; simp), h2]

/-- the types of things that are in form -/
theorem form_kd {L : List ClassR} {x : ThingR} (h : formErr L x = 0) : ∃ d b, x.ty = (Kd.ty d b).text ∧ (Kd.ty d b).Ok L ∧ (Kd.ty d b).refs = true ∧ (typesH L x).length = x.has.length ∧ (x.ty.head? = some 91 → x.has.length ≤ 10) := by
  unfold formErr at h
  split at h
  · omega
  rename_i h1
  split at h
  · rename_i h2; exact absurd h h2
  rename_i h2
  split at h
  · omega
  split at h
  · omega
  rename_i h3 h4
  obtain ⟨k, hk, e⟩ := kind_zero.1 (Classical.not_not.1 h2)
  have hn : ¬ numB x.ty = true := fun e => h1 (Or.inr e)
  have hT : TypeOk x.ty := Classical.not_not.1 fun e => h1 (Or.inl e)
  obtain ⟨d, b, e2, _⟩ := type_kd.1 hT
  have := text_inj (e.symm.trans e2)
  subst this
  refine ⟨d, b, e, hk, ?_, by omega, fun hh => Nat.le_of_not_lt fun hlt => h4 (Or.inl ⟨hh, hlt⟩)⟩
  cases d with
  | succ d => rfl
  | zero =>
    cases b with
    | int => exact absurd (by rw [e]; rfl) hn
    | long => exact absurd (by rw [e]; rfl) hn
    | cls n => rfl
end Go.Proofs.YtanjggdmgeedlaaGreatDoor
