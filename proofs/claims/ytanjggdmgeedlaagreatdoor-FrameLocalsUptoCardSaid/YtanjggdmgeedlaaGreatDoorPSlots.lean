/-
  Plain law (no program): the slots of a class's methods; where its fields lie.
-/
import Derived.Test.YtanjggdmgeedlaaGreatDoorPFind
import Derived.Test.YtanjggdmgeedlaaGreatDoorPLine2
namespace Go.Proofs.YtanjggdmgeedlaaGreatDoor
set_option linter.unusedVariables false
set_option linter.unusedSimpArgs false

structure SlotR where
  nm : Nm
  ty : Nm
  cl : Nm
def sHit (n k : Nm) (x : SlotR) : Bool := x.nm == n && x.ty == k
def putS (out : List SlotR) (s : SlotR) : List SlotR := (out.findIdx? (sHit s.nm s.ty)).elim (out ++ [s]) fun i => out.set i s
def stepS (c : Nm) (out : List SlotR) (m : MethR) : List SlotR := if (m.stat || m.priv) = true then out else putS out ⟨m.nm, m.ty, c⟩
def methsAt (L : List ClassR) (c : Nm) : List MethR := (look L c).elim [] (·.meths)
def addS (L : List ClassR) (out : List SlotR) (c : Nm) : List SlotR := (methsAt L c).foldl (stepS c) out
def slotsM (L : List ClassR) (n : Nm) : List SlotR := (line L n).reverse.foldl (addS L) []

/-- places keep their method -/
def Keeps (a b : List SlotR) : Prop := ∀ (k : Nat) (x : SlotR), a[k]? = some x → ∃ y, b[k]? = some y ∧ y.nm = x.nm ∧ y.ty = x.ty
theorem Keeps.refl (a : List SlotR) : Keeps a a := fun k x h => ⟨x, h, rfl, rfl⟩
theorem Keeps.trans {a b c : List SlotR} (h : Keeps a b) (g : Keeps b c) : Keeps a c := fun k x hx => by
  obtain ⟨y, hy, h1, h2⟩ := h k x hx
  obtain ⟨z, hz, h3, h4⟩ := g k y hy
  exact ⟨z, hz, by rw [h3, h1], by rw [h4, h2]⟩
theorem keeps_put (out : List SlotR) (s : SlotR) : Keeps out (putS out s) := by
  intro k x hx
  have hk := (List.getElem?_eq_some_iff.1 hx).1
  unfold putS
  cases hf : out.findIdx? (sHit s.nm s.ty) with
  | none => exact ⟨x, by simp only [Option.elim]; rw [List.getElem?_append_left hk]; exact hx, rfl, rfl⟩
  | some i =>
    simp only [Option.elim]
    by_cases e : i = k
    · subst e
      obtain ⟨h1, h2, _⟩ := List.findIdx?_eq_some_iff_getElem.1 hf
      have hxe : out[i] = x := by
        have := List.getElem?_eq_getElem hk
        rw [hx] at this
        exact (Option.some.inj this).symm
      rw [hxe] at h2
      unfold sHit at h2
      simp only [Bool.and_eq_true, beq_iff_eq] at h2
      exact ⟨s, by rw [List.getElem?_set]; simp [hk], h2.1.symm, h2.2.symm⟩
    · exact ⟨x, by rw [List.getElem?_set, if_neg e]; exact hx, rfl, rfl⟩
theorem keeps_add (L : List ClassR) (c : Nm) : ∀ (ms : List MethR) (out : List SlotR), Keeps out (ms.foldl (stepS c) out) := by
  intro ms
  induction ms with
  | nil => intro out; exact Keeps.refl _
  | cons m r ih =>
    intro out
    refine Keeps.trans ?_ (ih _)
    unfold stepS
    split
    · exact Keeps.refl _
    · exact keeps_put _ _
theorem keeps_fold (L : List ClassR) : ∀ (cs : List Nm) (out : List SlotR), Keeps out (cs.foldl (addS L) out) := by
  intro cs
  induction cs with
  | nil => intro out; exact Keeps.refl _
  | cons c r ih => intro out; exact Keeps.trans (keeps_add L c _ _) (ih _)
theorem slots_keep {l : List ClassR} (hg : Good l) {c d : Nm} (h : c ∈ line (wl l) d) : Keeps (slotsM (wl l) c) (slotsM (wl l) d) := by
  obtain ⟨pre, hp⟩ := line_suffix hg h
  unfold slotsM
  rw [hp, List.reverse_append, List.foldl_append]
  exact keeps_fold _ _ _
theorem putS_len (out : List SlotR) (s : SlotR) : (putS out s).length ≤ out.length + 1 := by
  unfold putS
  cases out.findIdx? (sHit s.nm s.ty) with
  | none => simp
  | some i => simp
theorem stepS_len (c : Nm) (out : List SlotR) (m : MethR) : (stepS c out m).length ≤ out.length + 1 := by
  unfold stepS
  split
  · omega
  · exact putS_len _ _

/-! fields -/
def fHit (n : Nm) (f : FieldR) : Bool := f.nm == n
def fldAt (L : List ClassR) (n c : Nm) : Option (Nm × FieldR) := (look L c).elim none fun d => (d.fields.find? (fHit n)).map fun f => (c, f)
noncomputable def fieldOf (L : List ClassR) (c n : Nm) : Option (Nm × FieldR) := (line L c).findSome? (fldAt L n)
def fieldsAt (L : List ClassR) (c : Nm) : List FieldR := (look L c).elim [] (·.fields)
def addF (L : List ClassR) (c : Nm) : List (Nm × FieldR) := (fieldsAt L c).map fun f => (c, f)
noncomputable def slotsF (L : List ClassR) (n : Nm) : List (Nm × FieldR) := (line L n).reverse.flatMap (addF L)
def pHit (c : Nm) (f : FieldR) (x : Nm × FieldR) : Bool := x.1 == c && (x.2.nm == f.nm && x.2.ty == f.ty)
noncomputable def placeF (L : List ClassR) (c n : Nm) : Option Nat := (fieldOf L c n).elim none fun x => (slotsF L c).findIdx? (pHit x.1 x.2)

theorem fieldOf_mem {L : List ClassR} {c n : Nm} {x : Nm × FieldR} (h : fieldOf L c n = some x) : x.2.nm = n ∧ x ∈ slotsF L c := by
  unfold fieldOf at h
  obtain ⟨y, hy, hh⟩ := some_mem h
  unfold fldAt at hh
  cases hl : look L y with
  | none => rw [hl] at hh; cases hh
  | some d =>
    rw [hl] at hh
    simp only [Option.elim] at hh
    cases hf : d.fields.find? (fHit n) with
    | none => rw [hf] at hh; cases hh
    | some f =>
      rw [hf] at hh
      simp only [Option.map_some, Option.some.injEq] at hh
      subst hh
      have h1 := List.find?_some hf
      unfold fHit at h1
      refine ⟨by simpa using h1, ?_⟩
      unfold slotsF
      rw [List.mem_flatMap]
      refine ⟨y, by simpa using hy, ?_⟩
      unfold addF fieldsAt
      rw [hl]
      exact List.mem_map.2 ⟨f, List.mem_of_find?_eq_some hf, rfl⟩
/-- the place of a field: there a field of that name and type lies -/
theorem placeF_at {L : List ClassR} {c n : Nm} {x : Nm × FieldR} (h : fieldOf L c n = some x) : ∃ i y, placeF L c n = some i ∧ (slotsF L c)[i]? = some y ∧ y.2.nm = n ∧ y.2.ty = x.2.ty := by
  obtain ⟨h1, h2⟩ := fieldOf_mem h
  unfold placeF
  rw [h]
  simp only [Option.elim]
  cases hf : (slotsF L c).findIdx? (pHit x.1 x.2) with
  | none =>
    have := List.findIdx?_eq_none_iff.1 hf x h2
    simp [pHit] at this
  | some i =>
    obtain ⟨hi, hh, _⟩ := List.findIdx?_eq_some_iff_getElem.1 hf
    refine ⟨i, _, rfl, List.getElem?_eq_getElem hi, ?_⟩
    unfold pHit at hh
    simp only [Bool.and_eq_true, beq_iff_eq] at hh
    exact ⟨by rw [hh.2.1, h1], hh.2.2⟩
theorem placeF_none {L : List ClassR} {c n : Nm} (h : fieldOf L c n = none) : placeF L c n = none := by unfold placeF; rw [h]; rfl
end Go.Proofs.YtanjggdmgeedlaaGreatDoor
