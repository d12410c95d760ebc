/-
  Plain law (no program): the line of a class; that a good world has no circle.
-/
import Derived.Test.YtokomofjcnefaaaDoorPWorld
namespace Go.Proofs.YtokomofjcnefaaaDoor
set_option linter.unusedVariables false
set_option linter.unusedSimpArgs false

/-- the one that a class extends -/
inductive Rs (L : List ClassR) (n : Nm) : Nm → Prop
  | refl : Rs L n n
  | step {x : Nm} {c : ClassR} : Rs L n x → look L x = some c → c.sup ≠ [] → Rs L n c.sup
theorem Rs.trans {L : List ClassR} {a b c : Nm} (h : Rs L a b) (k : Rs L b c) : Rs L a c := by
  induction k with
  | refl => exact h
  | step _ h1 h2 ih => exact .step ih h1 h2
theorem sup_above {L : List ClassR} {x : Nm} {c : ClassR} (h : look L x = some c) (hs : c.sup ≠ []) : c.sup ∈ above L x := by
  unfold above
  rw [h]
  simp [aboveC, hs]
theorem Rs.rc {L : List ClassR} {n x : Nm} (h : Rs L n x) : Rc L n x := by
  induction h with
  | refl => exact .refl
  | step _ h1 h2 ih => exact .step ih (sup_above h1 h2)

theorem good_names {l : List ClassR} (hg : Good l) : (names l).length ≤ 12 := by rw [names_len]; have := hg.len; omega
theorem good_every {l : List ClassR} (hg : Good l) (n x : Nm) : x ∈ every (wl l) n ↔ Rc (wl l) n x :=
  every_rc (U := n :: names l) (by have := good_names hg; simp; omega) (closed_names hg.join n) (by simp)

theorem rc_names {l : List ClassR} (hj : ∀ c ∈ l, joinErr (wl l) c = 0) {n x : Nm} (h : Rc (wl l) n x) : x = n ∨ x ∈ names l := by
  induction h with
  | refl => exact Or.inl rfl
  | step _ ha _ => exact Or.inr (above_names hj _ _ ha)

theorem rc_obj {l : List ClassR} {x : Nm} (h : Rc (wl l) objN x) : x = objN := by
  induction h with
  | refl => rfl
  | step _ ha ih =>
    subst ih
    have e : look (wl l) objN = some objC := by simp [look, wl, objC]
    unfold above at ha
    rw [e] at ha
    simp [aboveC, objC] at ha

theorem acyclic {l : List ClassR} (hg : Good l) {x a : Nm} (ha : a ∈ above (wl l) x) : ¬ Rc (wl l) a x := by
  intro hr
  have ha' := ha
  unfold above at ha'
  cases hl : look (wl l) x with
  | none => rw [hl] at ha'; simp at ha'
  | some c =>
    obtain ⟨hn, hm⟩ := find_name hl
    unfold wl at hm
    simp only [List.mem_cons] at hm
    rcases hm with rfl | rfl | hm
    · rw [hl] at ha'; simp [aboveC, objC] at ha'
    · rw [hl] at ha'
      simp [aboveC, fltC, objN] at ha'
      have : a = objN := ha'
      subst this
      have := rc_obj hr
      rw [← hn] at this
      simp [fltC, fltN, objN] at this
    · have h1 := hg.round c hm
      unfold roundB at h1
      rw [List.any_eq_false] at h1
      rw [hn] at h1
      have h2 := h1 a ha
      rw [List.contains_iff_mem, good_every hg] at h2
      exact h2 hr

/-- a state of the loop over a line -/
structure Ln (l : List ClassR) (n : Nm) (out : List Nm) (cur : Nm) : Prop where
  nd : out.Nodup
  sub : ∀ x ∈ out, x = n ∨ x ∈ names l
  pos : 1 ≤ out.length
  eq : line (wl l) n = out ++ supers (wl l) (101 - out.length) cur
  rs : ∀ x ∈ out, Rs (wl l) x cur
  from_ : ∀ x ∈ out, Rs (wl l) n x
  cm : cur ∈ out
  nx : ∀ x ∈ out, x = cur ∨ ∀ c, look (wl l) x = some c → c.sup ≠ [] → c.sup ∈ out
theorem Ln.start (l : List ClassR) (n : Nm) : Ln l n [n] n := ⟨by simp, by simp, by simp, by simp [line], fun x hx => by rw [List.mem_singleton.1 hx]; exact .refl, fun x hx => by rw [List.mem_singleton.1 hx]; exact .refl, by simp, fun x hx => Or.inl (List.mem_singleton.1 hx)⟩
theorem Ln.len {l : List ClassR} {n cur : Nm} {out : List Nm} (hg : Good l) (h : Ln l n out cur) : out.length ≤ 13 := by
  have := nodup_len (U := n :: names l) h.nd (fun x hx => by rcases h.sub x hx with h1 | h1 <;> simp [h1])
  have := good_names hg
  simp at *
  omega
theorem Ln.step {l : List ClassR} {n cur : Nm} {out : List Nm} {c : ClassR} (hg : Good l) (h : Ln l n out cur) (hc : look (wl l) cur = some c) (hs : c.sup ≠ []) : Ln l n (out ++ [c.sup]) c.sup := by
  have hl := h.len hg
  have hp := h.pos
  have hab := sup_above hc hs
  refine ⟨?_, ?_, by simp, ?_, ?_, ?_, by simp, ?_⟩
  · rw [List.nodup_append]
    refine ⟨h.nd, by simp, ?_⟩
    intro x hx y hy e
    rw [List.mem_singleton] at hy
    subst hy
    subst e
    exact acyclic hg hab (h.rs _ hx).rc
  · intro x hx
    rcases List.mem_append.1 hx with h1 | h1
    · exact h.sub x h1
    · rw [List.mem_singleton.1 h1]; exact Or.inr (above_names hg.join _ _ hab)
  · rw [h.eq, List.length_append, List.length_singleton]
    rw [show 101 - out.length = (101 - (out.length + 1)) + 1 by omega]
    conv => lhs; unfold supers
    rw [hc]
    simp only [hs, if_false]
    simp
  · intro x hx
    rcases List.mem_append.1 hx with h1 | h1
    · exact .step (h.rs x h1) hc hs
    · rw [List.mem_singleton.1 h1]; exact .refl
  · intro x hx
    rcases List.mem_append.1 hx with h1 | h1
    · exact h.from_ x h1
    · rw [List.mem_singleton.1 h1]; exact .step (h.from_ cur h.cm) hc hs
  · intro x hx
    rcases List.mem_append.1 hx with h1 | h1
    · right
      intro d hd hds
      rcases h.nx x h1 with e | e
      · subst e
        rw [hc] at hd
        cases hd
        simp
      · exact List.mem_append_left _ (e d hd hds)
    · exact Or.inl (List.mem_singleton.1 h1)
/-- where it ends -/
def atTop (L : List ClassR) (cur : Nm) : Prop := look L cur = none ∨ ∃ c, look L cur = some c ∧ c.sup = []
theorem Ln.done {l : List ClassR} {n cur : Nm} {out : List Nm} (hg : Good l) (h : Ln l n out cur) (ht : atTop (wl l) cur) : line (wl l) n = out := by
  have hl := h.len hg
  rw [h.eq, show 101 - out.length = (100 - out.length) + 1 by omega]
  unfold supers
  rcases ht with h1 | ⟨c, h1, h2⟩
  · rw [h1]; simp
  · rw [h1]; simp [h2]
theorem Ln.run {l : List ClassR} (hg : Good l) {n : Nm} : ∀ (k : Nat) (out : List Nm) (cur : Nm), Ln l n out cur → 13 - out.length ≤ k → ∃ cur, Ln l n (line (wl l) n) cur ∧ atTop (wl l) cur
  | 0, out, cur, h, hk => by
    have hl := h.len hg
    by_cases ht : atTop (wl l) cur
    · exact ⟨cur, by rw [h.done hg ht]; exact h, ht⟩
    · cases hlk : look (wl l) cur with
      | none => exact absurd (Or.inl hlk) ht
      | some c =>
        by_cases hs : c.sup = []
        · exact absurd (Or.inr ⟨c, hlk, hs⟩) ht
        · have := (h.step hg hlk hs).len hg
          simp at this
          omega
  | k + 1, out, cur, h, hk => by
    by_cases ht : atTop (wl l) cur
    · exact ⟨cur, by rw [h.done hg ht]; exact h, ht⟩
    · cases hlk : look (wl l) cur with
      | none => exact absurd (Or.inl hlk) ht
      | some c =>
        by_cases hs : c.sup = []
        · exact absurd (Or.inr ⟨c, hlk, hs⟩) ht
        · exact Ln.run hg k _ _ (h.step hg hlk hs) (by simp; omega)
theorem line_end {l : List ClassR} (hg : Good l) (n : Nm) : ∃ cur, Ln l n (line (wl l) n) cur ∧ atTop (wl l) cur := Ln.run hg 13 [n] n (Ln.start l n) (by simp)

theorem rs_top {L : List ClassR} {x y : Nm} (h : Rs L x y) (ht : atTop L x) : y = x := by
  induction h with
  | refl => rfl
  | step _ h1 h2 ih =>
    subst ih
    rcases ht with h3 | ⟨c, h3, h4⟩
    · rw [h1] at h3; cases h3
    · rw [h1] at h3
      cases h3
      exact absurd h4 h2

theorem line_rs {l : List ClassR} (hg : Good l) (n x : Nm) : x ∈ line (wl l) n ↔ Rs (wl l) n x := by
  obtain ⟨cur, h, ht⟩ := line_end hg n
  constructor
  · exact h.from_ x
  · intro hr
    induction hr with
    | refl => unfold line; simp
    | step hxr h1 h2 ih =>
      rename_i x c
      rcases h.nx x ih with e | e
      · subst e
        rcases ht with h3 | ⟨d, h3, h4⟩
        · rw [h1] at h3; cases h3
        · rw [h1] at h3
          cases h3
          exact absurd h4 h2
      · exact e c h1 h2
end Go.Proofs.YtokomofjcnefaaaDoor
