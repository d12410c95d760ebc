/-
  Plain law (no program): what a type's text is; how a text begins with one.
-/
import Derived.Test.YtokomofjcnefaaaDoorPName
import Derived.Lib.TrimByte
namespace Go.Proofs.YtokomofjcnefaaaDoor
set_option linter.unusedVariables false
set_option linter.unusedSimpArgs false
open Go.Lib

def TypeOk (t : List UInt8) : Prop :=
  ∃ P X : List UInt8, t = P ++ X ∧ (∀ b ∈ P, b = 91) ∧ P.length ≤ 3 ∧ (X = [73] ∨ X = [74] ∨ ∃ n, nameOk n = true ∧ X = 76 :: (n ++ [59]))

theorem name_no59 {n : List UInt8} (h : nameOk n = true) : ∀ b ∈ n, b ≠ 59 := by
  intro b hb e
  subst e
  simp only [nameOk, Bool.and_eq_true] at h
  have := List.all_eq_true.1 h.1.2 59 hb
  revert this; decide
theorem name_len {n : List UInt8} (h : nameOk n = true) : 1 ≤ n.length ∧ n.length ≤ 20 := by
  simp only [nameOk, Bool.and_eq_true, decide_eq_true_eq] at h
  refine ⟨?_, h.1.1.2⟩
  cases n with
  | nil => simp at h
  | cons x r => simp

theorem type_len {t : List UInt8} (h : TypeOk t) : 1 ≤ t.length ∧ t.length ≤ 25 := by
  obtain ⟨P, X, rfl, _, hP, h | h | ⟨n, hn, h⟩⟩ := h
  · subst h; simp; omega
  · subst h; simp; omega
  · subst h
    have := name_len hn
    simp
    omega

theorem dropWhile_lead (P X : List UInt8) (hP : ∀ b ∈ P, b = 91) (hX : ∀ c r, X = c :: r → c ≠ 91) : trimLeftB (P ++ X) 91 = X := by
  unfold trimLeftB
  induction P with
  | nil =>
    cases X with
    | nil => rfl
    | cons c r =>
      have := hX c r rfl
      simp [List.dropWhile, this]
  | cons b P ih =>
    have hb := hP b (by simp)
    subst hb
    simp only [List.cons_append, List.dropWhile]
    exact ih (fun b hb => hP b (by simp [hb]))

theorem lead_split (l : List UInt8) : ∃ P X : List UInt8, l = P ++ X ∧ (∀ b ∈ P, b = 91) ∧ (∀ c r, X = c :: r → c ≠ 91) := by
  induction l with
  | nil => exact ⟨[], [], rfl, by simp, by simp⟩
  | cons b l ih =>
    by_cases hb : b = 91
    · obtain ⟨P, X, rfl, hP, hX⟩ := ih
      exact ⟨b :: P, X, rfl, by simpa [hb] using hP, hX⟩
    · exact ⟨[], b :: l, rfl, by simp, fun c r e => by cases e; exact hb⟩

theorem lead_uniq : ∀ (P Q X Y : List UInt8), (∀ b ∈ P, b = 91) → (∀ b ∈ Q, b = 91) → (∀ c r, X = c :: r → c ≠ 91) → (∀ c r, Y = c :: r → c ≠ 91) → P ++ X = Q ++ Y → P = Q ∧ X = Y
  | [], [], X, Y, _, _, _, _, h => ⟨rfl, h⟩
  | [], q :: Q, X, Y, _, hQ, hX, _, h => by
    exact absurd (hQ q (by simp)) (hX q (Q ++ Y) h)
  | p :: P, [], X, Y, hP, _, _, hY, h => by
    exact absurd (hP p (by simp)) (hY p (P ++ X) h.symm)
  | p :: P, q :: Q, X, Y, hP, hQ, hX, hY, h => by
    simp only [List.cons_append, List.cons.injEq] at h
    obtain ⟨e1, e2⟩ := h
    obtain ⟨e3, e4⟩ := lead_uniq P Q X Y (fun b hb => hP b (by simp [hb])) (fun b hb => hQ b (by simp [hb])) hX hY e2
    exact ⟨by rw [e1, e3], e4⟩

theorem semi_uniq : ∀ (n m r s : List UInt8), (∀ b ∈ n, b ≠ 59) → (∀ b ∈ m, b ≠ 59) → n ++ 59 :: r = m ++ 59 :: s → n = m ∧ r = s
  | [], [], r, s, _, _, h => by simpa using h
  | [], y :: m, r, s, _, hm, h => by
    simp only [List.nil_append, List.cons_append, List.cons.injEq] at h
    exact absurd h.1.symm (hm y (by simp))
  | x :: n, [], r, s, hn, _, h => by
    simp only [List.nil_append, List.cons_append, List.cons.injEq] at h
    exact absurd h.1 (hn x (by simp))
  | x :: n, y :: m, r, s, hn, hm, h => by
    simp only [List.cons_append, List.cons.injEq] at h
    obtain ⟨e1, e2⟩ := semi_uniq n m r s (fun b hb => hn b (by simp [hb])) (fun b hb => hm b (by simp [hb])) h.2
    exact ⟨by rw [h.1, e1], e2⟩

/-- a text begins with at most one type -/
theorem type_uniq {t t' r r' : List UInt8} (h : TypeOk t) (h' : TypeOk t') (e : t ++ r = t' ++ r') : t = t' ∧ r = r' := by
  obtain ⟨P, X, rfl, hP, _, hX⟩ := h
  obtain ⟨Q, Y, rfl, hQ, _, hY⟩ := h'
  rw [List.append_assoc, List.append_assoc] at e
  have nx : ∀ c s, X ++ r = c :: s → c ≠ 91 := by
    intro c s e2
    rcases hX with rfl | rfl | ⟨n, _, rfl⟩ <;> (simp only [List.cons_append, List.nil_append, List.cons.injEq] at e2; rw [← e2.1]; decide)
  have ny : ∀ c s, Y ++ r' = c :: s → c ≠ 91 := by
    intro c s e2
    rcases hY with rfl | rfl | ⟨n, _, rfl⟩ <;> (simp only [List.cons_append, List.nil_append, List.cons.injEq] at e2; rw [← e2.1]; decide)
  obtain ⟨rfl, e3⟩ := lead_uniq P Q _ _ hP hQ nx ny e
  have key : X = Y ∧ r = r' := by
    rcases hX with rfl | rfl | ⟨n, hn, rfl⟩ <;> rcases hY with rfl | rfl | ⟨m, hm, rfl⟩ <;> simp only [List.cons_append, List.nil_append, List.cons.injEq, List.append_assoc] at e3
    · exact ⟨rfl, e3.2⟩
    · exact absurd e3.1 (by decide)
    · exact absurd e3.1 (by decide)
    · exact absurd e3.1 (by decide)
    · exact ⟨rfl, e3.2⟩
    · exact absurd e3.1 (by decide)
    · exact absurd e3.1 (by decide)
    · exact absurd e3.1 (by decide)
    · obtain ⟨rfl, e4⟩ := semi_uniq n m r r' (name_no59 hn) (name_no59 hm) e3.2
      exact ⟨rfl, e4⟩
  exact ⟨by rw [key.1], key.2⟩

theorem indexByte_at : ∀ (n r : List UInt8) (c : UInt8), (∀ b ∈ n, b ≠ c) → indexByte (n ++ c :: r) c = n.length
  | [], r, c, _ => by simp [indexByte]
  | x :: n, r, c, h => by
    have h1 := indexByte_at n r c (fun b hb => h b (by simp [hb]))
    have hx : (x == c) = false := by simpa using h x (by simp)
    simp only [List.cons_append, indexByte, hx, Bool.false_eq_true, if_false, h1]
    rw [if_neg (by simp)]
    simp
theorem indexByte_not : ∀ (n : List UInt8) (c : UInt8), (∀ b ∈ n, b ≠ c) → indexByte n c = -1
  | [], c, _ => by simp [indexByte]
  | x :: n, c, h => by
    have h1 := indexByte_not n c (fun b hb => h b (by simp [hb]))
    have hx : (x == c) = false := by simpa using h x (by simp)
    simp only [indexByte, hx, h1]
    simp

theorem semi_split (l : List UInt8) : (∀ b ∈ l, b ≠ 59) ∨ ∃ n r, l = n ++ 59 :: r ∧ ∀ b ∈ n, b ≠ 59 := by
  induction l with
  | nil => exact Or.inl (by simp)
  | cons b l ih =>
    by_cases hb : b = 59
    · exact Or.inr ⟨[], l, by rw [hb]; rfl, by simp⟩
    · rcases ih with h | ⟨n, r, rfl, h⟩
      · refine Or.inl ?_
        intro x hx
        rcases List.mem_cons.1 hx with h2 | h2
        · rw [h2]; exact hb
        · exact h x h2
      · refine Or.inr ⟨b :: n, r, rfl, ?_⟩
        intro x hx
        rcases List.mem_cons.1 hx with h2 | h2
        · rw [h2]; exact hb
        · exact h x h2

/-- how a text that begins with no type looks -/
theorem cut_ways (l : List UInt8) : (∃ t r, l = t ++ r ∧ TypeOk t) ∨
    (∃ P X, l = P ++ X ∧ (∀ b ∈ P, b = 91) ∧ (∀ c r, X = c :: r → c ≠ 91) ∧
      (3 < P.length ∨ (P.length ≤ 3 ∧ X = []) ∨ (P.length ≤ 3 ∧ ∃ c r, X = c :: r ∧ c ≠ 73 ∧ c ≠ 74 ∧ c ≠ 76) ∨ (P.length ≤ 3 ∧ ∃ r, X = 76 :: r ∧ ∀ b ∈ r, b ≠ 59) ∨
        (P.length ≤ 3 ∧ ∃ n r, X = 76 :: (n ++ 59 :: r) ∧ (∀ b ∈ n, b ≠ 59) ∧ nameOk n = false))) := by
  obtain ⟨P, X, rfl, hP, hX⟩ := lead_split l
  by_cases h3 : P.length ≤ 3
  · cases X with
    | nil => exact Or.inr ⟨P, [], rfl, hP, hX, Or.inr (Or.inl ⟨h3, rfl⟩)⟩
    | cons c r =>
      by_cases c1 : c = 73
      · exact Or.inl ⟨P ++ [73], r, by simp [c1], P, [73], rfl, hP, h3, Or.inl rfl⟩
      by_cases c2 : c = 74
      · exact Or.inl ⟨P ++ [74], r, by simp [c2], P, [74], rfl, hP, h3, Or.inr (Or.inl rfl)⟩
      by_cases c3 : c = 76
      · subst c3
        rcases semi_split r with h | ⟨n, s, rfl, h⟩
        · exact Or.inr ⟨P, 76 :: r, rfl, hP, hX, Or.inr (Or.inr (Or.inr (Or.inl ⟨h3, r, rfl, h⟩)))⟩
        · cases hn : nameOk n with
          | true => exact Or.inl ⟨P ++ 76 :: (n ++ [59]), s, by simp, P, _, rfl, hP, h3, Or.inr (Or.inr ⟨n, hn, rfl⟩)⟩
          | false => exact Or.inr ⟨P, _, rfl, hP, hX, Or.inr (Or.inr (Or.inr (Or.inr ⟨h3, n, s, rfl, h, hn⟩)))⟩
      · exact Or.inr ⟨P, c :: r, rfl, hP, hX, Or.inr (Or.inr (Or.inl ⟨h3, c, r, rfl, c1, c2, c3⟩))⟩
  · exact Or.inr ⟨P, X, rfl, hP, hX, Or.inl (by omega)⟩

/-- the two cases of cut_ways exclude each other -/
theorem cut_excl {t r P X : List UInt8} (ht : TypeOk t) (e : t ++ r = P ++ X) (hP : ∀ b ∈ P, b = 91) (hX : ∀ c r, X = c :: r → c ≠ 91)
    (h : 3 < P.length ∨ (P.length ≤ 3 ∧ X = []) ∨ (P.length ≤ 3 ∧ ∃ c r, X = c :: r ∧ c ≠ 73 ∧ c ≠ 74 ∧ c ≠ 76) ∨ (P.length ≤ 3 ∧ ∃ r, X = 76 :: r ∧ ∀ b ∈ r, b ≠ 59) ∨
        (P.length ≤ 3 ∧ ∃ n r, X = 76 :: (n ++ 59 :: r) ∧ (∀ b ∈ n, b ≠ 59) ∧ nameOk n = false)) : False := by
  obtain ⟨Q, Y, rfl, hQ, hQ3, hY⟩ := ht
  rw [List.append_assoc] at e
  have ny : ∀ c s, Y ++ r = c :: s → c ≠ 91 := by
    intro c s e2
    rcases hY with rfl | rfl | ⟨n, _, rfl⟩ <;> (simp only [List.cons_append, List.nil_append, List.cons.injEq] at e2; rw [← e2.1]; decide)
  obtain ⟨rfl, e3⟩ := lead_uniq Q P _ _ hQ hP ny hX e
  rcases h with h | ⟨_, rfl⟩ | ⟨_, c, s, rfl, c1, c2, c3⟩ | ⟨_, s, rfl, hs⟩ | ⟨_, n, s, rfl, hn, hb⟩
  · omega
  · rcases hY with rfl | rfl | ⟨n, _, rfl⟩ <;> simp at e3
  · rcases hY with rfl | rfl | ⟨n, _, rfl⟩ <;> simp only [List.cons_append, List.nil_append, List.cons.injEq] at e3
    · exact c1 e3.1.symm
    · exact c2 e3.1.symm
    · exact c3 e3.1.symm
  · rcases hY with rfl | rfl | ⟨n, _, rfl⟩ <;> simp only [List.cons_append, List.nil_append, List.cons.injEq] at e3
    · exact absurd e3.1 (by decide)
    · exact absurd e3.1 (by decide)
    · exact hs 59 (by rw [← e3.2]; simp) rfl
  · rcases hY with rfl | rfl | ⟨m, hm, rfl⟩ <;> simp only [List.cons_append, List.nil_append, List.cons.injEq, List.append_assoc] at e3
    · exact absurd e3.1 (by decide)
    · exact absurd e3.1 (by decide)
    · obtain ⟨rfl, _⟩ := semi_uniq m n r s (name_no59 hm) hn e3.2
      rw [hm] at hb; cases hb
end Go.Proofs.YtokomofjcnefaaaDoor
