/-
  Plain law (no program): worlds of classes: what is wrong with one, what is above a class, every class that a class is, its line.
-/
import Derived.Test.YtokomofjcnefaaaDoorPTwice
namespace Go.Proofs.YtokomofjcnefaaaDoor
set_option linter.unusedVariables false
set_option linter.unusedSimpArgs false

abbrev Nm := List UInt8
def objN : Nm := [79, 98, 106, 101, 99, 116]
def fltN : Nm := [70, 97, 117, 108, 116]
def objC : ClassR := ⟨objN, [], [], false, [], []⟩
def fltC : ClassR := ⟨fltN, objN, [], false, [], []⟩
def wl (l : List ClassR) : List ClassR := objC :: fltC :: l
def look (L : List ClassR) (n : Nm) : Option ClassR := L.find? (fun c => c.nm == n)
def aboveC (c : ClassR) : List Nm := if c.sup = [] then c.faces else c.sup :: c.faces
def above (L : List ClassR) (n : Nm) : List Nm := (look L n).elim [] aboveC

/-- put those in that are not there yet -/
def addNew (out : List Nm) : List Nm → List Nm
  | [] => out
  | a :: r => addNew (if out.contains a then out else out ++ [a]) r
/-- go on from place i -/
def bfs (ab : Nm → List Nm) : Nat → List Nm → Nat → List Nm
  | 0, out, _ => out
  | f + 1, out, i => match out[i]? with
    | none => out
    | some x => bfs ab f (addNew out (ab x)) (i + 1)
def everyU (L : List ClassR) (n : Nm) : List Nm := bfs (above L) 100 [n] 0
def every (L : List ClassR) (n : Nm) : List Nm := (everyU L n).mergeSort (fun x y => decide (x ≤ y))

def supers (L : List ClassR) : Nat → Nm → List Nm
  | 0, _ => []
  | f + 1, n => match look L n with
    | none => []
    | some c => if c.sup = [] then [] else c.sup :: supers L f c.sup
def line (L : List ClassR) (n : Nm) : List Nm := n :: supers L 100 n

def hasErr (L : List ClassR) (n : Nm) (face : Bool) : Int := (look L n).elim 3 fun c => if c.face = face then 0 else 7
def isErr (L : List ClassR) (l : List Nm) (j : Nat) : Int := (l[j]?).elim 0 fun f => if (look L f).isSome then 0 else 3
def facErr (L : List ClassR) (l : List Nm) (j : Nat) : Int := (l[j]?).elim 0 fun f => hasErr L f true
noncomputable def joinErr (L : List ClassR) (c : ClassR) : Int :=
  if c.sup = [] then 1
  else if (look L c.sup).isNone then 3
  else if firstNZ (isErr L c.faces) c.faces.length ≠ 0 then firstNZ (isErr L c.faces) c.faces.length
  else if hasErr L c.sup false ≠ 0 then hasErr L c.sup false
  else if firstNZ (facErr L c.faces) c.faces.length ≠ 0 then firstNZ (facErr L c.faces) c.faces.length
  else if c.face = true ∧ c.sup ≠ objN then 7
  else 0

def roundB (L : List ClassR) (n : Nm) : Bool := (above L n).any fun a => (every L a).contains n

noncomputable def inErr (l : List ClassR) (j : Nat) : Int := (l[j]?).elim 0 fun c => if classErr c ≠ 0 then classErr c else if (look (wl (l.take j)) c.nm).isSome then 5 else 0
noncomputable def jnErr (l : List ClassR) (j : Nat) : Int := (l[j]?).elim 0 fun c => joinErr (wl l) c
def rdErr (l : List ClassR) (j : Nat) : Int := (l[j]?).elim 0 fun c => if roundB (wl l) c.nm then 6 else 0
noncomputable def readErr (l : List ClassR) : Int :=
  if 10 < l.length then 4
  else if firstNZ (inErr l) l.length ≠ 0 then firstNZ (inErr l) l.length
  else if firstNZ (jnErr l) l.length ≠ 0 then firstNZ (jnErr l) l.length
  else firstNZ (rdErr l) l.length

theorem find_name {L : List ClassR} {n : Nm} {c : ClassR} (h : look L n = some c) : c.nm = n ∧ c ∈ L := by
  unfold look at h
  have h1 := List.find?_some h
  have h2 := List.mem_of_find?_eq_some h
  exact ⟨by simpa using h1, h2⟩

theorem addNew_pre (as : List Nm) : ∀ out, ∃ r, addNew out as = out ++ r := by
  induction as with
  | nil => intro out; exact ⟨[], by simp [addNew]⟩
  | cons a r ih =>
    intro out
    unfold addNew
    by_cases h : out.contains a = true
    · rw [if_pos h]; exact ih out
    · rw [if_neg h]
      obtain ⟨s, hs⟩ := ih (out ++ [a])
      exact ⟨a :: s, by rw [hs]; simp⟩
theorem addNew_mem (as : List Nm) : ∀ out x, x ∈ addNew out as ↔ x ∈ out ∨ x ∈ as := by
  induction as with
  | nil => intro out x; simp [addNew]
  | cons a r ih =>
    intro out x
    unfold addNew
    rw [ih]
    by_cases h : out.contains a = true
    · rw [if_pos h]
      have : a ∈ out := by simpa using h
      constructor
      · rintro (h1 | h1)
        · exact Or.inl h1
        · exact Or.inr (by simp [h1])
      · rintro (h1 | h1)
        · exact Or.inl h1
        · rcases List.mem_cons.1 h1 with h2 | h2
          · left; rw [h2]; exact this
          · exact Or.inr h2
    · rw [if_neg h]
      simp [or_assoc]
theorem addNew_nodup (as : List Nm) : ∀ out, out.Nodup → (addNew out as).Nodup := by
  induction as with
  | nil => intro out h; exact h
  | cons a r ih =>
    intro out h
    unfold addNew
    apply ih
    by_cases hc : out.contains a = true
    · rw [if_pos hc]; exact h
    · rw [if_neg hc]
      rw [List.nodup_append]
      refine ⟨h, by simp, ?_⟩
      intro x hx y hy e
      rw [List.mem_singleton] at hy
      subst hy
      subst e
      exact hc (by simpa using hx)

/-- a list of names that holds what is above each of them -/
def Closed (L : List ClassR) (U : List Nm) : Prop := ∀ x ∈ U, ∀ a ∈ above L x, a ∈ U
theorem nodup_len {l U : List Nm} (hn : l.Nodup) (h : ∀ x ∈ l, x ∈ U) : l.length ≤ U.length := by
  induction l generalizing U with
  | nil => simp
  | cons a r ih =>
    rw [List.nodup_cons] at hn
    have ha := h a (by simp)
    have h1 := ih (U := U.erase a) hn.2 (fun x hx => (List.mem_erase_of_ne (by rintro rfl; exact hn.1 hx)).2 (h x (by simp [hx])))
    have h2 := List.length_erase_of_mem ha
    have h3 := List.length_pos_of_mem ha
    simp only [List.length_cons]
    omega

/-- what is come to upward -/
inductive Rc (L : List ClassR) (n : Nm) : Nm → Prop
  | refl : Rc L n n
  | step {x a : Nm} : Rc L n x → a ∈ above L x → Rc L n a
/-- a state of the search -/
structure WSch (L : List ClassR) (U : List Nm) (n : Nm) (out : List Nm) (i : Nat) : Prop where
  nd : out.Nodup
  sub : ∀ x ∈ out, x ∈ U
  le : i ≤ out.length
  eq : bfs (above L) (100 - i) out i = everyU L n
  cl : ∀ j x, j < i → out[j]? = some x → ∀ a ∈ above L x, a ∈ out
  rc : ∀ x ∈ out, Rc L n x
  st : n ∈ out
theorem WSch.start {L : List ClassR} {U : List Nm} {n : Nm} (h : n ∈ U) : WSch L U n [n] 0 :=
  ⟨by simp, by simpa using h, by simp, rfl, by omega, fun x hx => by rw [List.mem_singleton.1 hx]; exact .refl, by simp⟩
theorem WSch.len {L : List ClassR} {U : List Nm} {n : Nm} {out : List Nm} {i : Nat} (h : WSch L U n out i) : out.length ≤ U.length := nodup_len h.nd h.sub
theorem WSch.step {L : List ClassR} {U : List Nm} {n x : Nm} {out : List Nm} {i : Nat} (h : WSch L U n out i) (hU : U.length ≤ 50) (hC : Closed L U) (hx : out[i]? = some x) : WSch L U n (addNew out (above L x)) (i + 1) := by
  have hl := h.len
  have hi := (List.getElem?_eq_some_iff.1 hx).1
  refine ⟨addNew_nodup _ _ h.nd, ?_, ?_, ?_, ?_, ?_, (addNew_mem _ _ _).2 (Or.inl h.st)⟩
  · intro y hy
    rcases (addNew_mem _ _ _).1 hy with h1 | h1
    · exact h.sub y h1
    · exact hC x (h.sub x (List.mem_of_getElem? hx)) y h1
  · obtain ⟨r, hr⟩ := addNew_pre (above L x) out
    rw [hr, List.length_append]; omega
  · have e := h.eq
    rw [show 100 - i = (100 - (i + 1)) + 1 by omega] at e
    unfold bfs at e
    rw [hx] at e
    exact e
  · intro j y hj hy a ha
    rw [addNew_mem]
    obtain ⟨r, hr⟩ := addNew_pre (above L x) out
    rw [hr, List.getElem?_append_left (by omega)] at hy
    by_cases e : j = i
    · subst e
      rw [hx] at hy
      cases hy
      exact Or.inr ha
    · exact Or.inl (h.cl j y (by omega) hy a ha)
  · intro y hy
    rcases (addNew_mem _ _ _).1 hy with h1 | h1
    · exact h.rc y h1
    · exact .step (h.rc x (List.mem_of_getElem? hx)) h1
theorem WSch.done {L : List ClassR} {U : List Nm} {n : Nm} {out : List Nm} (h : WSch L U n out out.length) : everyU L n = out := by
  rw [← h.eq]
  cases hf : 100 - out.length with
  | zero => rfl
  | succ f =>
    unfold bfs
    simp


theorem WSch.run {L : List ClassR} {U : List Nm} {n : Nm} (hU : U.length ≤ 50) (hC : Closed L U) : ∀ (k : Nat) (out : List Nm) (i : Nat), WSch L U n out i → U.length - i ≤ k → ∃ out, WSch L U n out out.length
  | 0, out, i, h, hk => by
    have := h.len
    have hi : i = out.length := by have := h.le; omega
    subst hi
    exact ⟨out, h⟩
  | k + 1, out, i, h, hk => by
    by_cases hi : i = out.length
    · subst hi; exact ⟨out, h⟩
    · obtain ⟨x, hx⟩ : ∃ x, out[i]? = some x := ⟨_, List.getElem?_eq_getElem (by have := h.le; omega)⟩
      exact WSch.run hU hC k _ _ (h.step hU hC hx) (by omega)
theorem every_sch {L : List ClassR} {U : List Nm} {n : Nm} (hU : U.length ≤ 50) (hC : Closed L U) (hn : n ∈ U) : WSch L U n (everyU L n) (everyU L n).length := by
  obtain ⟨out, h⟩ := WSch.run hU hC U.length [n] 0 (WSch.start hn) (by omega)
  rw [h.done]; exact h
theorem every_mem {L : List ClassR} {n x : Nm} : x ∈ every L n ↔ x ∈ everyU L n := by unfold every; exact List.mem_mergeSort
theorem every_rc {L : List ClassR} {U : List Nm} {n x : Nm} (hU : U.length ≤ 50) (hC : Closed L U) (hn : n ∈ U) : x ∈ every L n ↔ Rc L n x := by
  have h := every_sch hU hC hn
  rw [every_mem]
  constructor
  · exact h.rc x
  · intro hr
    induction hr with
    | refl => exact h.st
    | step _ ha ih =>
      obtain ⟨j, hj, e⟩ := List.getElem_of_mem ih
      have hx := List.getElem?_eq_getElem hj
      rw [e] at hx
      exact h.cl j _ hj hx _ ha

def names (l : List ClassR) : List Nm := (wl l).map (·.nm)
theorem look_some {L : List ClassR} {n : Nm} : (look L n).isSome = true ↔ n ∈ L.map (·.nm) := by
  unfold look
  rw [List.find?_isSome, List.mem_map]
  constructor
  · rintro ⟨c, hc, h⟩; exact ⟨c, hc, by simpa using h⟩
  · rintro ⟨c, hc, h⟩; exact ⟨c, hc, by simpa using h⟩
theorem look_none {L : List ClassR} {n : Nm} (h : n ∉ L.map (·.nm)) : look L n = none := by
  cases hl : look L n with
  | none => rfl
  | some c => exact absurd (look_some.1 (by rw [hl]; rfl)) h

/-- a world that is not refused -/
structure Good (l : List ClassR) : Prop where
  len : l.length ≤ 10
  ok : ∀ c ∈ l, classErr c = 0
  new : ∀ j c, l[j]? = some c → c.nm ∉ names (l.take j)
  join : ∀ c ∈ l, joinErr (wl l) c = 0
  round : ∀ c ∈ l, roundB (wl l) c.nm = false

theorem at_mem {l : List ClassR} {c : ClassR} (h : c ∈ l) : ∃ j, j < l.length ∧ l[j]? = some c := by
  obtain ⟨j, hj, rfl⟩ := List.getElem_of_mem h
  exact ⟨j, hj, List.getElem?_eq_getElem hj⟩

theorem inErr_at {l : List ClassR} {j : Nat} {c : ClassR} (h : l[j]? = some c) : inErr l j = if classErr c ≠ 0 then classErr c else if (look (wl (l.take j)) c.nm).isSome then 5 else 0 := by unfold inErr; rw [h]; rfl
theorem jnErr_at {l : List ClassR} {j : Nat} {c : ClassR} (h : l[j]? = some c) : jnErr l j = joinErr (wl l) c := by unfold jnErr; rw [h]; rfl
theorem rdErr_at {l : List ClassR} {j : Nat} {c : ClassR} (h : l[j]? = some c) : rdErr l j = if roundB (wl l) c.nm then 6 else 0 := by unfold rdErr; rw [h]; rfl

theorem in_ok {l : List ClassR} {j : Nat} {c : ClassR} (h : l[j]? = some c) : inErr l j = 0 ↔ classErr c = 0 ∧ c.nm ∉ names (l.take j) := by
  rw [inErr_at h]
  by_cases h1 : classErr c = 0
  · rw [if_neg (by simp [h1])]
    by_cases h2 : (look (wl (l.take j)) c.nm).isSome = true
    · rw [if_pos h2]
      exact ⟨fun h => by omega, fun h => absurd (look_some.1 h2) h.2⟩
    · rw [if_neg h2]
      exact ⟨fun _ => ⟨h1, fun hm => h2 (look_some.2 hm)⟩, fun _ => rfl⟩
  · rw [if_pos h1]
    exact ⟨fun h => absurd h h1, fun h => absurd h.1 h1⟩

theorem readErr_zero (l : List ClassR) : readErr l = 0 ↔ Good l := by
  unfold readErr
  by_cases h1 : 10 < l.length
  · rw [if_pos h1]; exact ⟨fun h => by omega, fun h => by have := h.len; omega⟩
  rw [if_neg h1]
  by_cases h2 : firstNZ (inErr l) l.length = 0
  · rw [if_neg (by simp [h2])]
    have h2' := (firstNZ_zero _ _).1 h2
    by_cases h3 : firstNZ (jnErr l) l.length = 0
    · rw [if_neg (by simp [h3])]
      have h3' := (firstNZ_zero _ _).1 h3
      rw [firstNZ_zero]
      constructor
      · intro h4
        refine ⟨by omega, ?_, ?_, ?_, ?_⟩
        · intro c hc
          obtain ⟨j, hj, hx⟩ := at_mem hc
          exact ((in_ok hx).1 (h2' j hj)).1
        · intro j c hx
          exact ((in_ok hx).1 (h2' j (List.getElem?_eq_some_iff.1 hx).1)).2
        · intro c hc
          obtain ⟨j, hj, hx⟩ := at_mem hc
          rw [← jnErr_at hx]; exact h3' j hj
        · intro c hc
          obtain ⟨j, hj, hx⟩ := at_mem hc
          have := h4 j hj
          rw [rdErr_at hx] at this
          cases hr : roundB (wl l) c.nm with
          | false => rfl
          | true => rw [hr] at this; simp at this
      · intro hg j hj
        rw [rdErr_at (List.getElem?_eq_getElem hj), hg.round _ (List.getElem_mem hj)]
        rfl
    · rw [if_pos h3]
      exact ⟨fun h => absurd h h3, fun hg => absurd ((firstNZ_zero _ _).2 (fun j hj => by rw [jnErr_at (List.getElem?_eq_getElem hj)]; exact hg.join _ (List.getElem_mem hj))) h3⟩
  · rw [if_pos h2]
    exact ⟨fun h => absurd h h2, fun hg => absurd ((firstNZ_zero _ _).2 (fun j hj => (in_ok (List.getElem?_eq_getElem hj)).2 ⟨hg.ok _ (List.getElem_mem hj), hg.new j _ (List.getElem?_eq_getElem hj)⟩)) h2⟩

theorem join_parts {L : List ClassR} {c : ClassR} (h : joinErr L c = 0) : c.sup ≠ [] ∧ (look L c.sup).isSome = true ∧ (∀ f ∈ c.faces, (look L f).isSome = true) ∧ hasErr L c.sup false = 0 ∧ (∀ f ∈ c.faces, hasErr L f true = 0) ∧ (c.face = true → c.sup = objN) := by
  unfold joinErr at h
  split at h
  · omega
  rename_i h1
  split at h
  · omega
  rename_i h2
  split at h
  · rename_i h3; exact absurd h h3
  rename_i h3
  split at h
  · rename_i h4; exact absurd h h4
  rename_i h4
  split at h
  · rename_i h5; exact absurd h h5
  rename_i h5
  split at h
  · omega
  rename_i h6
  refine ⟨h1, by cases hl : look L c.sup with | none => rw [hl] at h2; simp at h2 | some d => rfl, ?_, by omega, ?_, ?_⟩
  · intro f hf
    obtain ⟨j, hj, rfl⟩ := List.getElem_of_mem hf
    have := (firstNZ_zero _ _).1 (show firstNZ (isErr L c.faces) c.faces.length = 0 by omega) j hj
    unfold isErr at this
    rw [List.getElem?_eq_getElem hj] at this
    simp only [Option.elim] at this
    split at this
    · assumption
    · omega
  · intro f hf
    obtain ⟨j, hj, rfl⟩ := List.getElem_of_mem hf
    have := (firstNZ_zero _ _).1 (show firstNZ (facErr L c.faces) c.faces.length = 0 by omega) j hj
    unfold facErr at this
    rw [List.getElem?_eq_getElem hj] at this
    exact this
  · intro hf
    by_cases hs : c.sup = objN
    · exact hs
    · exact absurd ⟨hf, hs⟩ h6

/-- all that stands above a name of a joined world is a name of it -/
theorem above_names {l : List ClassR} (hj : ∀ c ∈ l, joinErr (wl l) c = 0) (x : Nm) : ∀ a ∈ above (wl l) x, a ∈ names l := by
  intro a ha
  unfold above at ha
  cases hl : look (wl l) x with
  | none => rw [hl] at ha; simp at ha
  | some c =>
    rw [hl] at ha
    simp only [Option.elim] at ha
    obtain ⟨_, hm⟩ := find_name hl
    unfold wl at hm
    simp only [List.mem_cons] at hm
    rcases hm with rfl | rfl | hm
    · simp [aboveC, objC] at ha
    · simp [aboveC, fltC, objN] at ha
      rw [ha]
      simp [names, wl, objC, objN]
    · obtain ⟨_, h2, h3, _⟩ := join_parts (hj c hm)
      unfold aboveC at ha
      split at ha
      · exact look_some.1 (h3 a ha)
      · rcases List.mem_cons.1 ha with rfl | ha
        · exact look_some.1 h2
        · exact look_some.1 (h3 a ha)
theorem closed_names {l : List ClassR} (hj : ∀ c ∈ l, joinErr (wl l) c = 0) (n : Nm) : Closed (wl l) (n :: names l) := fun x _ a ha => List.mem_cons_of_mem _ (above_names hj x a ha)
theorem names_len (l : List ClassR) : (names l).length = l.length + 2 := by simp [names, wl]

end Go.Proofs.YtokomofjcnefaaaDoor
