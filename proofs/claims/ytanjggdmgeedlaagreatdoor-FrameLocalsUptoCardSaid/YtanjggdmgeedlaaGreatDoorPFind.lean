/-
  Plain law (no program): whose a method is, whose a field is; who may call.
-/
import Derived.Test.YtanjggdmgeedlaaGreatDoorPlain
namespace Go.Proofs.YtanjggdmgeedlaaGreatDoor
set_option linter.unusedVariables false
set_option linter.unusedSimpArgs false

theorem some_at {α β : Type} {f : α → Option β} : ∀ {l : List α} {k : Nat} {x : α} {y : β}, (∀ x ∈ l.take k, f x = none) → l[k]? = some x → f x = some y → l.findSome? f = some y
  | [], k, x, y, _, h, _ => by simp at h
  | a :: r, 0, x, y, _, h, hf => by
    simp only [List.getElem?_cons_zero, Option.some.injEq] at h
    subst h
    simp [List.findSome?, hf]
  | a :: r, k + 1, x, y, h0, h, hf => by
    have ha := h0 a (by simp)
    simp only [List.findSome?, ha]
    exact some_at (k := k) (fun x hx => h0 x (by simp [hx])) (by simpa using h) hf
theorem none_all {α β : Type} {f : α → Option β} {l : List α} (h : ∀ x ∈ l, f x = none) : l.findSome? f = none := List.findSome?_eq_none_iff.2 h
theorem some_mem {α β : Type} {f : α → Option β} {l : List α} {y : β} (h : l.findSome? f = some y) : ∃ x ∈ l, f x = some y := by
  rw [List.findSome?_eq_some_iff] at h
  obtain ⟨l1, a, l2, rfl, h1, _⟩ := h
  exact ⟨a, by simp, h1⟩

def mHit (n k : Nm) (m : MethR) : Bool := m.nm == n && m.ty == k
def ownM (c : ClassR) (n k : Nm) : Option MethR := c.meths.find? (mHit n k)
def ownAt (L : List ClassR) (n k c : Nm) : Option MethR := (look L c).elim none (ownM · n k)
def faceAt (L : List ClassR) (c : Nm) : Bool := (look L c).elim false (·.face)
def hitL (L : List ClassR) (n k c : Nm) : Option (Nm × MethR) := (ownAt L n k c).map fun m => (c, m)
def hitF (L : List ClassR) (n k : Nm) (ab : Bool) (c : Nm) : Option (Nm × MethR) := (ownAt L n k c).elim none fun m => if (faceAt L c && m.abst == ab) = true then some (c, m) else none
noncomputable def methOf (L : List ClassR) (c n k : Nm) : Option (Nm × MethR) :=
  ((line L c).findSome? (hitL L n k)).or (((every L c).findSome? (hitF L n k false)).or ((every L c).findSome? (hitF L n k true)))

theorem hitL_own {L : List ClassR} {n k c x : Nm} {m : MethR} (h : hitL L n k c = some (x, m)) : x = c ∧ ownAt L n k c = some m := by
  unfold hitL at h
  cases ho : ownAt L n k c with
  | none => rw [ho] at h; cases h
  | some m' =>
    rw [ho] at h
    simp only [Option.map_some, Option.some.injEq, Prod.mk.injEq] at h
    exact ⟨h.1.symm, by rw [h.2]⟩
theorem hitF_own {L : List ClassR} {n k c x : Nm} {ab : Bool} {m : MethR} (h : hitF L n k ab c = some (x, m)) : x = c ∧ ownAt L n k c = some m := by
  unfold hitF at h
  cases ho : ownAt L n k c with
  | none => rw [ho] at h; cases h
  | some m' =>
    rw [ho] at h
    simp only [Option.elim] at h
    split at h
    · simp only [Option.some.injEq, Prod.mk.injEq] at h
      exact ⟨h.1.symm, by rw [h.2]⟩
    · cases h

/-- what is found lies in a class of All -/
theorem methOf_every {l : List ClassR} (hg : Good l) {c n k x : Nm} {m : MethR} (h : methOf (wl l) c n k = some (x, m)) : x ∈ every (wl l) c := by
  unfold methOf at h
  rw [Option.or_eq_some_iff] at h
  rcases h with h | ⟨_, h⟩
  · obtain ⟨y, hy, hh⟩ := some_mem h
    obtain ⟨rfl, _⟩ := hitL_own hh
    rw [good_every hg]
    exact ((line_rs hg _ _).1 hy).rc
  · rw [Option.or_eq_some_iff] at h
    rcases h with h | ⟨_, h⟩
    · obtain ⟨y, hy, hh⟩ := some_mem h
      obtain ⟨rfl, _⟩ := hitF_own hh
      exact hy
    · obtain ⟨y, hy, hh⟩ := some_mem h
      obtain ⟨rfl, _⟩ := hitF_own hh
      exact hy

theorem meth_once {c : ClassR} (h : classErr c = 0) {k : Nat} {m : MethR} (hm : c.meths[k]? = some m) : ownM c m.nm m.ty = some m := by
  obtain ⟨_, _, _, _, h5, _⟩ := classErr_ok h
  have hk := (List.getElem?_eq_some_iff.1 hm).1
  have h1 := h5 k hk
  unfold methsErr at h1
  rw [hm] at h1
  simp only [Option.elim] at h1
  have h2 : (c.meths.take k).any (fun x => x.nm == m.nm && x.ty == m.ty) = false := by
    unfold methErr at h1
    split at h1
    · omega
    split at h1
    · omega
    split at h1
    · omega
    · rename_i h; simpa using h
  unfold ownM
  rw [← List.take_append_drop k c.meths, List.find?_append, List.find?_eq_none.2 (fun x hx => by
    have := List.any_eq_false.1 h2 x hx
    unfold mHit
    exact this), List.drop_eq_getElem_cons hk]
  have he : c.meths[k] = m := by
    have := List.getElem?_eq_getElem hk
    rw [hm] at this
    exact (Option.some.inj this).symm
  simp [he, mHit]
/-- a class's own method is found there -/
theorem methOf_own {l : List ClassR} (hg : Good l) {j k : Nat} {c : ClassR} {m : MethR} (hc : l[j]? = some c) (hm : c.meths[k]? = some m) : methOf (wl l) c.nm m.nm m.ty = some (c.nm, m) := by
  have h1 : ownAt (wl l) m.nm m.ty c.nm = some m := by
    unfold ownAt
    rw [look_at hg hc]
    exact meth_once (hg.ok c (List.mem_of_getElem? hc)) hm
  unfold methOf line
  simp [List.findSome?, hitL, h1]

/-! who may call -/
open Classical in
noncomputable def foundErr (L : List ClassR) (fr c n k : Nm) (st : Bool) : Int :=
  if look L c = none then 3
  else match methOf L c n k with
  | none => 3
  | some (x, m) => if look L fr = none then 3 else if m.stat ≠ st then 7 else if m.priv = true ∧ x ≠ fr then 9 else 0
noncomputable def callErr (l : List ClassR) (fr c n k : Nm) (st : Bool) : Int := if readErr l ≠ 0 then readErr l else foundErr (wl l) fr c n k st
noncomputable def methErrF (l : List ClassR) (c n k : Nm) : Int := if readErr l ≠ 0 then readErr l else if look (wl l) c = none then 3 else if methOf (wl l) c n k = none then 3 else 0
end Go.Proofs.YtanjggdmgeedlaaGreatDoor
