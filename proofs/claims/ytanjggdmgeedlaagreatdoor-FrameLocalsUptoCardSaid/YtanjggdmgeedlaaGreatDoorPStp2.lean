/-
  Plain law: what an instruction leaves of the locals.
-/
import Derived.Test.YtanjggdmgeedlaaGreatDoorStp11
namespace Go.Proofs.YtanjggdmgeedlaaGreatDoor
set_option linter.unusedVariables false
set_option linter.unusedSimpArgs false

theorem oel {α β : Type} {o : Option α} {F : α → Option β} {g : β} (h : o.elim none F = some g) : ∃ p, o = some p ∧ F p = some g := by
  cases o with
  | none => cases h
  | some p => exact ⟨p, rfl, h⟩
/-- the locals stay; the stack keeps its bound -/
def Keep (f g : FrR) : Prop := g.loc = f.loc ∧ (f.st.length ≤ 8 → g.st.length ≤ 8)
theorem Keep.refl (f : FrR) : Keep f f := ⟨rfl, fun h => h⟩
theorem Keep.trans {f g h : FrR} (a : Keep f g) (b : Keep g h) : Keep f h := ⟨b.1.trans a.1, fun x => b.2 (a.2 x)⟩
theorem keep_pop {f g : FrR} {k : Nm} (h : popF f = some (k, g)) : Keep f g := by
  rcases pop_cases f with h0 | ⟨A, k', h0⟩
  · rw [popF_nil h0] at h; cases h
  · rw [popF_snoc h0] at h
    simp only [Option.some.injEq, Prod.mk.injEq] at h
    obtain ⟨_, rfl⟩ := h
    refine ⟨rfl, fun h8 => ?_⟩
    rw [h0] at h8
    simp at h8
    show A.length ≤ 8
    omega
theorem keep_put {f g : FrR} {k : Nm} (h : putF f k = some g) : Keep f g := by
  unfold putF at h
  split at h
  · simp only [Option.some.injEq] at h
    subst h
    exact ⟨rfl, fun _ => by simp; omega⟩
  · cases h
theorem keep_take {L : List ClassR} : ∀ {ts : List Nm} {f g : FrR}, takeF L ts f = some g → Keep f g
  | [], f, g, h => by simp only [takeF, Option.some.injEq] at h; subst h; exact Keep.refl f
  | t :: r, f, g, h => by
    unfold takeF at h
    split at h
    · cases h
    obtain ⟨⟨k, f2⟩, hp, h⟩ := oel h
    split at h
    · exact (keep_pop hp).trans (keep_take h)
    · cases h
theorem keep_ref {f g : FrR} {k : Nm} (h : refF f = some (k, g)) : Keep f g := by
  unfold refF at h
  obtain ⟨⟨k2, f2⟩, hp, h⟩ := oel h
  split at h
  · simp only [Option.some.injEq, Prod.mk.injEq] at h
    obtain ⟨_, rfl⟩ := h
    exact keep_pop hp
  · cases h
theorem keep_arr {L : List ClassR} {t : Nm} {f g : FrR} (h : arrF L t f = some g) : Keep f g := by
  unfold arrF at h
  split at h
  · cases h
  obtain ⟨f2, h2, h⟩ := oel h
  obtain ⟨⟨k, f3⟩, h3, h⟩ := oel h
  split at h
  · simp only [Option.some.injEq] at h
    subst h
    exact (keep_take h2).trans (keep_ref h3)
  · cases h
theorem keep_putO {r : Option FrR} {k : Nm} {g : FrR} (h : putO r k = some g) : ∃ f, r = some f ∧ Keep f g := by
  unfold putO at h
  obtain ⟨f, h1, h⟩ := oel h
  exact ⟨f, h1, keep_put h⟩
theorem keep_call {L : List ClassR} {fr : Nm} {x : InsR} {st : Bool} {f g : FrR} (h : callF L fr x st f = some g) : Keep f g := by
  unfold callF at h
  split at h
  · cases h
  split at h
  · unfold callG at h
    obtain ⟨f1, h1, h⟩ := oel h
    obtain ⟨f2, h2, h⟩ := oel h
    have k2 : Keep f1 f2 := by
      split at h2
      · simp only [Option.some.injEq] at h2; subst h2; exact Keep.refl _
      · exact keep_take h2
    have k1 := (keep_take h1).trans k2
    split at h
    · simp only [Option.some.injEq] at h; subst h; exact k1
    · split at h
      · cases h
      · exact k1.trans (keep_put h)
  · cases h
theorem keep_math {L : List ClassR} {a : Int} {ty : Nm} {f g : FrR} (h : mathF L a ty f = some g) : Keep f g := by
  unfold mathF at h
  split at h
  · simp only [Option.some.injEq] at h; subst h; exact Keep.refl _
  · split at h <;> exact keep_take h
theorem keep_plain {L : List ClassR} {gv : Nm} {x : InsR} {f g : FrR} (h5 : x.op ≠ 5) (h : plainF L gv x f = some g) : Keep f g := by
  unfold plainF at h
  by_cases e2 : x.op = 2
  · rw [if_pos e2] at h
    exact keep_put h
  rw [if_neg e2] at h
  by_cases e3 : x.op = 3
  · rw [if_pos e3] at h
    exact keep_put h
  rw [if_neg e3] at h
  by_cases e4 : x.op = 4
  · rw [if_pos e4] at h
    obtain ⟨k, _, h⟩ := oel h
    split at h
    · cases h
    · exact keep_put h
  rw [if_neg e4] at h
  by_cases e5 : x.op = 5
  · rw [if_pos e5] at h
    exact absurd e5 h5
  rw [if_neg e5] at h
  by_cases e6 : x.op = 6
  · rw [if_pos e6] at h
    cases hp : popF f with
    | none => rw [hp] at h; cases h
    | some p =>
      rw [hp] at h
      simp only [Option.map_some, Option.some.injEq] at h
      subst h
      exact keep_pop (k := p.1) hp
  rw [if_neg e6] at h
  by_cases e7 : x.op = 7
  · rw [if_pos e7] at h
    obtain ⟨⟨k, f2⟩, hp, h⟩ := oel h
    obtain ⟨f3, h3, k3⟩ := keep_putO h
    exact ((keep_pop hp).trans (keep_put h3)).trans k3
  rw [if_neg e7] at h
  by_cases e8 : x.op = 8
  · rw [if_pos e8] at h
    obtain ⟨⟨k, f2⟩, hp, h⟩ := oel h
    obtain ⟨⟨k', f3⟩, hp', h⟩ := oel h
    obtain ⟨f4, h4, k4⟩ := keep_putO h
    exact (((keep_pop hp).trans (keep_pop hp')).trans (keep_put h4)).trans k4
  rw [if_neg e8] at h
  by_cases e9 : x.op = 9
  · rw [if_pos e9] at h
    obtain ⟨f2, h2, h⟩ := oel h
    obtain ⟨f3, h3, k3⟩ := keep_putO h
    exact ((keep_math h2).trans (keep_take h3)).trans k3
  rw [if_neg e9] at h
  by_cases e10 : x.op = 10
  · rw [if_pos e10] at h
    obtain ⟨f3, h3, k3⟩ := keep_putO h
    exact (keep_take h3).trans k3
  rw [if_neg e10] at h
  by_cases e11 : x.op = 11
  · rw [if_pos e11] at h
    obtain ⟨f3, h3, k3⟩ := keep_putO h
    exact (keep_take h3).trans k3
  rw [if_neg e11] at h
  by_cases e12 : x.op = 12
  · rw [if_pos e12] at h
    exact keep_take h
  rw [if_neg e12] at h
  by_cases e13 : x.op = 13
  · rw [if_pos e13] at h
    cases hp : refF f with
    | none => rw [hp] at h; cases h
    | some p =>
      rw [hp] at h
      simp only [Option.map_some, Option.some.injEq] at h
      subst h
      exact keep_ref (k := p.1) hp
  rw [if_neg e13] at h
  by_cases e26 : x.op = 26
  · rw [if_pos e26] at h
    split at h
    · simp only [Option.some.injEq] at h; subst h; exact Keep.refl _
    · cases h
  rw [if_neg e26] at h
  by_cases e27 : x.op = 27
  · rw [if_pos e27] at h
    split at h
    · cases h
    · exact keep_take h
  rw [if_neg e27] at h
  by_cases e28 : x.op = 28
  · rw [if_pos e28] at h
    exact keep_take h
  rw [if_neg e28] at h
  simp only [Option.some.injEq] at h; subst h; exact Keep.refl _
theorem keep_heap {L : List ClassR} {fr : Nm} {x : InsR} {f g : FrR} (h : heapF L fr x f = some g) : Keep f g := by
  unfold heapF at h
  by_cases e15 : x.op = 15
  · rw [if_pos e15] at h
    split at h
    · cases h
    split at h
    · cases h
    · exact keep_put h
  rw [if_neg e15] at h
  by_cases e16 : x.op = 16
  · rw [if_pos e16] at h
    obtain ⟨t, _, h⟩ := oel h
    obtain ⟨f3, h3, k3⟩ := keep_putO h
    exact (keep_take h3).trans k3
  rw [if_neg e16] at h
  by_cases e17 : x.op = 17
  · rw [if_pos e17] at h
    obtain ⟨t, _, h⟩ := oel h
    exact keep_take h
  rw [if_neg e17] at h
  by_cases e18 : x.op = 18
  · rw [if_pos e18] at h
    split at h
    · cases h
    · obtain ⟨f3, h3, k3⟩ := keep_putO h
      exact (keep_take h3).trans k3
  rw [if_neg e18] at h
  by_cases e19 : x.op = 19
  · rw [if_pos e19] at h
    obtain ⟨⟨k, f2⟩, hp, h⟩ := oel h
    split at h
    · exact (keep_ref hp).trans (keep_put h)
    · cases h
  rw [if_neg e19] at h
  by_cases e20 : x.op = 20
  · rw [if_pos e20] at h
    obtain ⟨f3, h3, k3⟩ := keep_putO h
    exact (keep_arr h3).trans k3
  rw [if_neg e20] at h
  by_cases e21 : x.op = 21
  · rw [if_pos e21] at h
    split at h
    · cases h
    · obtain ⟨f2, h2, h⟩ := oel h
      exact (keep_take h2).trans (keep_arr h)
  rw [if_neg e21] at h
  by_cases e22 : x.op = 22
  · rw [if_pos e22] at h
    split at h
    · cases h
    · obtain ⟨⟨k, f2⟩, hp, h⟩ := oel h
      exact (keep_ref hp).trans (keep_put h)
  rw [if_neg e22] at h
  by_cases e23 : x.op = 23
  · rw [if_pos e23] at h
    split at h
    · cases h
    · obtain ⟨⟨k, f2⟩, hp, h⟩ := oel h
      exact (keep_ref hp).trans (keep_put h)
  rw [if_neg e23] at h
  by_cases e24 : x.op = 24
  · rw [if_pos e24] at h
    exact keep_call h
  rw [if_neg e24] at h
  by_cases e25 : x.op = 25
  · rw [if_pos e25] at h
    exact keep_call h
  rw [if_neg e25] at h
  simp only [Option.some.injEq] at h; subst h; exact Keep.refl _
theorem after_keep {L : List ClassR} {fr gv : Nm} {x : InsR} {f g : FrR} (h : afterF L fr gv x f = some g) (h8 : f.st.length ≤ 8) : g.loc.length = f.loc.length ∧ g.st.length ≤ 8 ∧ ∀ i : Nat, (x.op ≠ 5 ∨ i ≠ x.a.toNat) → g.loc[i]? = f.loc[i]? := by
  unfold afterF at h
  obtain ⟨m, hm, h⟩ := oel h
  have kh := keep_heap h
  by_cases h5 : x.op = 5
  · unfold plainF at hm
    rw [if_neg (by omega), if_neg (by omega), if_neg (by omega), if_pos h5] at hm
    obtain ⟨⟨k, f2⟩, hp, hm⟩ := oel hm
    have kp := keep_pop hp
    split at hm
    · simp only [Option.some.injEq] at hm
      subst hm
      refine ⟨by rw [kh.1]; simp [kp.1], kh.2 (kp.2 h8), fun i hi => ?_⟩
      rw [kh.1]
      show (f2.loc.set x.a.toNat k)[i]? = _
      rcases hi with hi | hi
      · exact absurd h5 hi
      · rw [List.getElem?_set_ne (fun e => hi e.symm), kp.1]
    · cases hm
  · have kp := keep_plain h5 hm
    have := kp.trans kh
    exact ⟨by rw [this.1], this.2 h8, fun i _ => by rw [this.1]⟩
end Go.Proofs.YtanjggdmgeedlaaGreatDoor
