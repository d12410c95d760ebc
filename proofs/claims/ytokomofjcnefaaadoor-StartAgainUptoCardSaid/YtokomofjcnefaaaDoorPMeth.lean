/-
  Plain law (no program): what a method type's text is, and that it is read in one way only.
-/
import Derived.Test.YtokomofjcnefaaaDoorPDesc
namespace Go.Proofs.YtokomofjcnefaaaDoor
set_option linter.unusedVariables false
set_option linter.unusedSimpArgs false
open Go.Lib

def GivesOk (g : List UInt8) : Prop := g = [86] ∨ TypeOk g
def MethodOk (m : List UInt8) (A : List (List UInt8)) (g : List UInt8) : Prop :=
  m = 40 :: (A.flatten ++ 41 :: g) ∧ (∀ t ∈ A, TypeOk t) ∧ A.length ≤ 5 ∧ GivesOk g

theorem type_no41 {t r s : List UInt8} (h : TypeOk t) (e : t ++ r = 41 :: s) : False := by
  obtain ⟨P, X, rfl, hP, _, hX⟩ := h
  cases P with
  | nil =>
    rcases hX with rfl | rfl | ⟨n, _, rfl⟩ <;> simp at e
  | cons b P =>
    have := hP b (by simp)
    subst this
    simp at e

theorem parse_prefix : ∀ (A A' : List (List UInt8)) (rest g : List UInt8), (∀ t ∈ A, TypeOk t) → (∀ t ∈ A', TypeOk t) → A.flatten ++ rest = A'.flatten ++ 41 :: g → ∃ A'', A' = A ++ A'' ∧ rest = A''.flatten ++ 41 :: g
  | [], A', rest, g, _, _, h => ⟨A', rfl, by simpa using h⟩
  | t :: A, [], rest, g, h1, _, h => by
    simp only [List.flatten_cons, List.flatten_nil, List.nil_append, List.append_assoc] at h
    exact absurd h (fun h => type_no41 (h1 t (by simp)) h)
  | t :: A, t' :: A', rest, g, h1, h2, h => by
    simp only [List.flatten_cons, List.append_assoc] at h
    obtain ⟨rfl, h3⟩ := type_uniq (h1 t (by simp)) (h2 t' (by simp)) h
    obtain ⟨A'', rfl, h4⟩ := parse_prefix A A' rest g (fun x hx => h1 x (by simp [hx])) (fun x hx => h2 x (by simp [hx])) h3
    exact ⟨A'', rfl, h4⟩

theorem parse_uniq {A A' : List (List UInt8)} {g g' : List UInt8} (h1 : ∀ t ∈ A, TypeOk t) (h2 : ∀ t ∈ A', TypeOk t) (h : A.flatten ++ 41 :: g = A'.flatten ++ 41 :: g') : A = A' ∧ g = g' := by
  obtain ⟨A'', rfl, h4⟩ := parse_prefix A A' _ g' h1 h2 h
  cases A'' with
  | nil =>
    simp at h4
    exact ⟨by simp, h4⟩
  | cons t r =>
    exfalso
    simp only [List.flatten_cons, List.append_assoc] at h4
    exact type_no41 (h2 t (by simp)) h4.symm

theorem method_uniq {m : List UInt8} {A A' : List (List UInt8)} {g g' : List UInt8} (h : MethodOk m A g) (h' : MethodOk m A' g') : A = A' ∧ g = g' := by
  obtain ⟨rfl, h1, _, _⟩ := h
  obtain ⟨e, h2, _, _⟩ := h'
  simp only [List.cons.injEq, true_and] at e
  exact parse_uniq h1 h2 e

/-- the reader stood still at a place where no type begins -/
theorem method_none {s rest : List UInt8} {A : List (List UInt8)} (h1 : ∀ t ∈ A, TypeOk t) (e : s = A.flatten ++ rest) (hn : ∀ t r, rest = t ++ r → ¬ TypeOk t) (h41 : ∀ g, rest ≠ 41 :: g) : ∀ A' g', ¬ MethodOk (40 :: s) A' g' := by
  rintro A' g' ⟨e2, h2, _, _⟩
  simp only [List.cons.injEq, true_and] at e2
  rw [e] at e2
  obtain ⟨A'', rfl, h4⟩ := parse_prefix A A' rest g' h1 h2 e2
  cases A'' with
  | nil => exact h41 g' (by simpa using h4)
  | cons t r =>
    simp only [List.flatten_cons, List.append_assoc] at h4
    exact hn t _ h4 (h2 t (by simp))

/-- the reader came to the closing bracket, and what it has is not right -/
theorem method_wrong {s g : List UInt8} {A : List (List UInt8)} (h1 : ∀ t ∈ A, TypeOk t) (e : s = A.flatten ++ 41 :: g) (hw : 5 < A.length ∨ ¬ GivesOk g) : ∀ A' g', ¬ MethodOk (40 :: s) A' g' := by
  rintro A' g' ⟨e2, h2, h3, h4⟩
  simp only [List.cons.injEq, true_and] at e2
  rw [e] at e2
  obtain ⟨rfl, rfl⟩ := parse_uniq h1 h2 e2
  rcases hw with h | h
  · omega
  · exact h h4

theorem method_open {m : List UInt8} (h : ∀ s, m ≠ 40 :: s) : ∀ A' g', ¬ MethodOk m A' g' := fun A' g' h2 => h _ h2.1

theorem type_pos {t : List UInt8} (h : TypeOk t) : 0 < t.length := by have := (type_len h).1; omega
theorem types_len : ∀ (A : List (List UInt8)), (∀ t ∈ A, TypeOk t) → A.length ≤ A.flatten.length
  | [], _ => by simp
  | t :: A, h => by
    have h1 := type_pos (h t (by simp))
    have h2 := types_len A (fun x hx => h x (by simp [hx]))
    simp only [List.length_cons, List.flatten_cons, List.length_append]
    omega
end Go.Proofs.YtokomofjcnefaaaDoor
