/-
  Plain law (no program): what an instruction makes of a frame.
-/
import Derived.Test.YtanjggdmgeedlaaGreatDoorPFrm
import Derived.Test.YtanjggdmgeedlaaGreatDoorPSlots
import Derived.Test.YtanjggdmgeedlaaGreatDoorPFind
import Derived.Test.YtanjggdmgeedlaaGreatDoorKind1
namespace Go.Proofs.YtanjggdmgeedlaaGreatDoor
set_option linter.unusedVariables false
set_option linter.unusedSimpArgs false

/-- does one kind's text fit another one -/
noncomputable def doesX (L : List ClassR) (s t : Nm) : Bool := doesK L (kd L s) (kd L t)
def popF (f : FrR) : Option (Nm × FrR) := f.st.getLast?.map fun k => (k, ⟨f.loc, f.st.dropLast⟩)
def putF (f : FrR) (k : Nm) : Option FrR := if f.st.length < 8 then some ⟨f.loc, f.st ++ [k]⟩ else none
noncomputable def takeF (L : List ClassR) : List Nm → FrR → Option FrR
  | [], f => some f
  | t :: r, f => if kindErr L t ≠ 0 then none else (popF f).elim none fun p => if doesX L p.1 t = true then takeF L r p.2 else none
def refF (f : FrR) : Option (Nm × FrR) := (popF f).elim none fun p => if (p.1 == [78]) || refsB p.1 then some p else none
noncomputable def arrF (L : List ClassR) (t : Nm) (f : FrR) : Option FrR :=
  if kindErr L t ≠ 0 then none else (takeF L [[73]] f).elim none fun g => (refF g).elim none fun p =>
    if (p.1 == [78]) || ((p.1.head? == some 91) && doesX L p.1.tail t && (refsB p.1.tail == refsB t)) then some p.2 else none
noncomputable def fldF (L : List ClassR) (c n : Nm) : Option Nm :=
  if kindErr L (thing c) ≠ 0 then none else (fieldOf L c n).elim none fun p => if kindErr L p.2.ty ≠ 0 then none else some p.2.ty

theorem popF_nil {f : FrR} (h : f.st = []) : popF f = none := by unfold popF; rw [h]; rfl
theorem popF_snoc {f : FrR} {A : List Nm} {k : Nm} (h : f.st = A ++ [k]) : popF f = some (k, ⟨f.loc, A⟩) := by unfold popF; rw [h]; simp
theorem pop_cases (f : FrR) : f.st = [] ∨ ∃ A k, f.st = A ++ [k] := by
  rcases List.eq_nil_or_concat f.st with h | ⟨A, k, h⟩
  · exact Or.inl h
  · exact Or.inr ⟨A, k, by rw [h]; simp⟩
/-- a frame of right kinds, within its bounds -/
structure KOk (L : List ClassR) (f : FrR) : Prop where
  loc : f.loc.length ≤ 8
  st : f.st.length ≤ 8
  kn : ∀ t ∈ f.loc ++ f.st, kindErr L t = 0
theorem KOk.pop {L : List ClassR} {f g : FrR} {k : Nm} (h : KOk L f) (hp : popF f = some (k, g)) : KOk L g ∧ kindErr L k = 0 ∧ g.loc = f.loc := by
  rcases pop_cases f with h0 | ⟨A, k', h0⟩
  · rw [popF_nil h0] at hp; cases hp
  · rw [popF_snoc h0] at hp
    simp only [Option.some.injEq, Prod.mk.injEq] at hp
    obtain ⟨rfl, rfl⟩ := hp
    have h2 := h.st
    rw [h0] at h2
    refine ⟨⟨h.loc, by simp at h2; show A.length ≤ 8; omega, fun t ht => h.kn t ?_⟩, h.kn _ (by rw [h0]; simp), rfl⟩
    rw [h0]
    rcases List.mem_append.1 ht with ht | ht
    · exact List.mem_append_left _ ht
    · exact List.mem_append_right _ (List.mem_append_left _ ht)
theorem KOk.put {L : List ClassR} {f g : FrR} {k : Nm} (h : KOk L f) (hk : kindErr L k = 0) (hp : putF f k = some g) : KOk L g ∧ g.loc = f.loc := by
  unfold putF at hp
  split at hp
  · simp only [Option.some.injEq] at hp
    subst hp
    refine ⟨⟨h.loc, by simp; omega, fun t ht => ?_⟩, rfl⟩
    simp only [List.mem_append, List.mem_singleton] at ht
    rcases ht with ht | ht | ht
    · exact h.kn t (by simp [ht])
    · exact h.kn t (by simp [ht])
    · rw [ht]; exact hk
  · cases hp
theorem KOk.take {L : List ClassR} : ∀ {ts : List Nm} {f g : FrR}, KOk L f → takeF L ts f = some g → KOk L g ∧ g.loc = f.loc
  | [], f, g, h, hp => by simp only [takeF, Option.some.injEq] at hp; subst hp; exact ⟨h, rfl⟩
  | t :: r, f, g, h, hp => by
    unfold takeF at hp
    split at hp
    · cases hp
    cases hq : popF f with
    | none => rw [hq] at hp; cases hp
    | some p =>
      obtain ⟨k, f2⟩ := p
      rw [hq] at hp
      simp only [Option.elim_some] at hp
      split at hp
      · obtain ⟨h1, _, h2⟩ := h.pop hq
        obtain ⟨h3, h4⟩ := h1.take hp
        exact ⟨h3, h4.trans h2⟩
      · cases hp
end Go.Proofs.YtanjggdmgeedlaaGreatDoor
