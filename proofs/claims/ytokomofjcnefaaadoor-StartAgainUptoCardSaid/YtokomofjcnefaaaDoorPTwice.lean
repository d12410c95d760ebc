/-
  Plain law (no program): a class in which something occurs twice is told to be so.
-/
import Derived.Test.YtokomofjcnefaaaDoorPClass
namespace Go.Proofs.YtokomofjcnefaaaDoor
set_option linter.unusedVariables false
set_option linter.unusedSimpArgs false

theorem classErr_ok {c : ClassR} (h : classErr c = 0) : (nameOk c.nm = true ∧ (c.sup = [] ∨ nameOk c.sup = true)) ∧ (∀ j, j < c.faces.length → faceErr c.faces j = 0) ∧ (c.faces.length ≤ 8 ∧ c.fields.length ≤ 8 ∧ c.meths.length ≤ 8) ∧
    (∀ j, j < c.fields.length → fieldErr c.fields j = 0) ∧ (∀ j, j < c.meths.length → methsErr c.meths j = 0) ∧ ¬ (c.face = true ∧ c.fields ≠ []) := by
  unfold classErr at h
  split at h
  · omega
  rename_i h1
  split at h
  · rename_i h2; exact absurd h h2
  rename_i h2
  split at h
  · omega
  rename_i h3
  split at h
  · rename_i h4; exact absurd h h4
  rename_i h4
  split at h
  · rename_i h5; exact absurd h h5
  rename_i h5
  split at h
  · omega
  rename_i h6
  refine ⟨?_, (firstNZ_zero _ _).1 (by omega), by omega, (firstNZ_zero _ _).1 (by omega), (firstNZ_zero _ _).1 (by omega), h6⟩
  simp only [not_or, Bool.not_eq_false, not_and] at h1
  refine ⟨h1.1, ?_⟩
  by_cases hs : c.sup = []
  · exact Or.inl hs
  · exact Or.inr (h1.2 hs)

theorem names_ok {c : ClassR} (h : nameOk c.nm = true ∧ (c.sup = [] ∨ nameOk c.sup = true)) : ¬ (nameOk c.nm = false ∨ (c.sup ≠ [] ∧ nameOk c.sup = false)) := by
  rintro (h1 | ⟨h1, h2⟩)
  · rw [h.1] at h1; cases h1
  · rcases h.2 with h3 | h3
    · exact h1 h3
    · rw [h3] at h2; cases h2

theorem faceErr_snoc (l : List (List UInt8)) (f : List UInt8) {j : Nat} (hj : j < l.length) : faceErr (l ++ [f]) j = faceErr l j := by
  unfold faceErr
  rw [List.getElem?_append_left hj, List.take_append_of_le_length (by omega)]
theorem fieldErr_snoc (l : List FieldR) (f : FieldR) {j : Nat} (hj : j < l.length) : fieldErr (l ++ [f]) j = fieldErr l j := by
  unfold fieldErr
  rw [List.getElem?_append_left hj, List.take_append_of_le_length (by omega)]
theorem methsErr_snoc (l : List MethR) (f : MethR) {j : Nat} (hj : j < l.length) : methsErr (l ++ [f]) j = methsErr l j := by
  unfold methsErr
  rw [List.getElem?_append_left hj, List.take_append_of_le_length (by omega)]

theorem twice_face {c : ClassR} {f : List UInt8} (h : classErr c = 0) (hf : f ∈ c.faces) : classErr { c with faces := c.faces ++ [f] } = 5 := by
  obtain ⟨h1, h2, h3, h4, h5, h6⟩ := classErr_ok h
  have hn : nameOk f = true := by
    obtain ⟨j, hj, rfl⟩ := List.getElem_of_mem hf
    have := h2 j hj
    unfold faceErr at this
    rw [List.getElem?_eq_getElem hj] at this
    simp only [Option.elim] at this
    split at this
    · omega
    · rename_i h; simpa using h
  have hat : faceErr (c.faces ++ [f]) c.faces.length = 5 := by
    unfold faceErr
    rw [List.getElem?_append_right (by omega)]
    simp [hn, hf]
  have hfz : firstNZ (faceErr (c.faces ++ [f])) (c.faces ++ [f]).length = 5 := by
    rw [firstNZ_at (k := c.faces.length) (fun j hj => by rw [faceErr_snoc _ _ hj]; exact h2 j hj) (by rw [hat]; omega) _ (by simp), hat]
  unfold classErr
  rw [if_neg (names_ok (c := { c with faces := c.faces ++ [f] }) h1)]
  simp only
  rw [hfz, if_pos (by omega)]

theorem twice_field {c : ClassR} {f : FieldR} (h : classErr c = 0) (hf : f ∈ c.fields) (hl : c.fields.length < 8) : classErr { c with fields := c.fields ++ [f] } = 5 := by
  obtain ⟨h1, h2, h3, h4, h5, h6⟩ := classErr_ok h
  have hn : ¬ (nameOk f.nm = false ∨ ¬ TypeOk f.ty) := by
    obtain ⟨j, hj, rfl⟩ := List.getElem_of_mem hf
    have := h4 j hj
    unfold fieldErr at this
    rw [List.getElem?_eq_getElem hj] at this
    simp only [Option.elim] at this
    split at this
    · omega
    · assumption
  have hat : fieldErr (c.fields ++ [f]) c.fields.length = 5 := by
    unfold fieldErr
    rw [List.getElem?_append_right (by omega)]
    simp only [Nat.sub_self, List.getElem?_cons_zero, Option.elim]
    rw [if_neg hn, List.take_left, if_pos (List.any_eq_true.2 ⟨f, hf, by simp⟩)]
  have hfz : firstNZ (fieldErr (c.fields ++ [f])) (c.fields ++ [f]).length = 5 := by
    rw [firstNZ_at (k := c.fields.length) (fun j hj => by rw [fieldErr_snoc _ _ hj]; exact h4 j hj) (by rw [hat]; omega) _ (by simp), hat]
  unfold classErr
  rw [if_neg (names_ok (c := { c with fields := c.fields ++ [f] }) h1)]
  simp only
  rw [(firstNZ_zero _ _).2 h2, if_neg (by simp), if_neg (by rw [List.length_append, List.length_singleton]; omega), hfz, if_pos (by omega)]

theorem twice_meth {c : ClassR} {m : MethR} (h : classErr c = 0) (hm : m ∈ c.meths) (hl : c.meths.length < 8) : classErr { c with meths := c.meths ++ [m] } = 5 := by
  obtain ⟨h1, h2, h3, h4, h5, h6⟩ := classErr_ok h
  have hn : nameOk m.nm = true ∧ mtyErr m.ty = 0 := by
    obtain ⟨j, hj, rfl⟩ := List.getElem_of_mem hm
    have := h5 j hj
    unfold methsErr at this
    rw [List.getElem?_eq_getElem hj] at this
    simp only [Option.elim] at this
    unfold methErr at this
    split at this
    · omega
    rename_i hq
    split at this
    · omega
    rename_i hr
    exact ⟨by simpa using hq, by omega⟩
  have hat : methsErr (c.meths ++ [m]) c.meths.length = 5 := by
    unfold methsErr
    rw [List.getElem?_append_right (by omega)]
    simp only [Nat.sub_self, List.getElem?_cons_zero, Option.elim]
    unfold methErr
    rw [if_neg (by rw [hn.1]; simp), if_neg (by simp [hn.2]), List.take_left, if_pos (List.any_eq_true.2 ⟨m, hm, by simp⟩)]
  have hfz : firstNZ (methsErr (c.meths ++ [m])) (c.meths ++ [m]).length = 5 := by
    rw [firstNZ_at (k := c.meths.length) (fun j hj => by rw [methsErr_snoc _ _ hj]; exact h5 j hj) (by rw [hat]; omega) _ (by simp), hat]
  unfold classErr
  rw [if_neg (names_ok (c := { c with meths := c.meths ++ [m] }) h1)]
  simp only
  rw [(firstNZ_zero _ _).2 h2, if_neg (by simp), if_neg (by rw [List.length_append, List.length_singleton]; omega), (firstNZ_zero _ _).2 h4, if_neg (by simp), hfz, if_pos (by omega)]
end Go.Proofs.YtokomofjcnefaaaDoor
