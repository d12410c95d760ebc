/-
  Plain law (no program): what a name is, as a function on bytes, and what strings.Trim leaves of one.
-/
import Derived.Lib.SlTrimSet
import Derived.Lib.IndexLaws
namespace Go.Proofs.YtokomofjcnefaaaDoor
set_option linter.unusedVariables false
set_option linter.unusedSimpArgs false
open Go.Lib

def letB (b : UInt8) : Bool := (decide (97 ≤ b.toNat) && decide (b.toNat ≤ 122)) || (decide (65 ≤ b.toNat) && decide (b.toNat ≤ 90)) || b.toNat == 95
def digB (b : UInt8) : Bool := decide (48 ≤ b.toNat) && decide (b.toNat ≤ 57)
def headDig : List UInt8 → Bool
  | [] => false
  | b :: _ => digB b
/-- a text is a name -/
def nameOk (l : List UInt8) : Bool := !l.isEmpty && decide (l.length ≤ 20) && l.all (fun b => letB b || digB b) && !headDig l

def nameSet : List UInt8 := [97, 98, 99, 100, 101, 102, 103, 104, 105, 106, 107, 108, 109, 110, 111, 112, 113, 114, 115, 116, 117, 118, 119, 120, 121, 122, 65, 66, 67, 68, 69, 70, 71, 72, 73, 74, 75, 76, 77, 78, 79, 80, 81, 82, 83, 84, 85, 86, 87, 88, 89, 90, 95, 48, 49, 50, 51, 52, 53, 54, 55, 56, 57]

theorem byte_all (p : UInt8 → Bool) (h : (List.range 256).all (fun n => p n.toUInt8) = true) (b : UInt8) : p b = true := by
  have h1 := List.all_eq_true.1 h b.toNat (List.mem_range.2 b.toNat_lt)
  have e : b.toNat.toUInt8 = b := by
    apply UInt8.toNat_inj.1
    simp
  rw [e] at h1
  exact h1

theorem nameSet_contains (b : UInt8) : nameSet.contains b = (letB b || digB b) := by
  have h := byte_all (fun b => nameSet.contains b == (letB b || digB b)) (by decide +kernel) b
  exact eq_of_beq h

theorem dropWhile_nil {α : Type} (p : α → Bool) (l : List α) : l.dropWhile p = [] ↔ l.all p = true := by
  induction l with
  | nil => simp
  | cons x r ih =>
    by_cases h : p x = true
    · simp [List.dropWhile, h, ih]
    · simp [List.dropWhile, h]

/-- strings.Trim leaves nothing exactly if each byte is in the set -/
theorem trimS_nil (l cs : List UInt8) : trimS l cs = [] ↔ l.all (cs.contains ·) = true := by
  unfold trimS trimLeftS trimRightS
  rw [dropWhile_nil]
  constructor
  · intro h
    by_cases e : l.all (cs.contains ·) = true
    · exact e
    · exfalso
      have h2 : (l.reverse.dropWhile (cs.contains ·)) = [] := by
        cases hd : l.reverse.dropWhile (cs.contains ·) with
        | nil => rfl
        | cons x r =>
          exfalso
          have hx : cs.contains x = true := by
            rw [hd] at h
            have := List.all_eq_true.1 h x (by simp)
            simpa using this
          have hn := List.head?_dropWhile_not (cs.contains ·) l.reverse
          rw [hd] at hn
          simp at hn
          simp [hn] at hx
      rw [dropWhile_nil] at h2
      rw [List.all_reverse] at h2
      exact e h2
  · intro h
    have h2 : (l.reverse.dropWhile (cs.contains ·)) = [] := by
      rw [dropWhile_nil, List.all_reverse]; exact h
    rw [h2]; rfl

theorem trim_name (l : List UInt8) : (trimS l nameSet).isEmpty = l.all (fun b => letB b || digB b) := by
  have h := trimS_nil l nameSet
  have e : l.all (nameSet.contains ·) = l.all (fun b => letB b || digB b) := by
    congr 1; funext b; exact nameSet_contains b
  rw [e] at h
  rw [Bool.eq_iff_iff, List.isEmpty_iff]
  exact h

def digSet : List UInt8 := [48, 49, 50, 51, 52, 53, 54, 55, 56, 57]
theorem digSet_contains (b : UInt8) : digSet.contains b = digB b := by
  have h := byte_all (fun b => digSet.contains b == digB b) (by decide +kernel) b
  exact eq_of_beq h

theorem digit_index (b : UInt8) : decide (0 ≤ indexByte digSet b) = digB b := by
  rw [← digSet_contains]
  have h := byte_all (fun b => decide (0 ≤ indexByte digSet b) == digSet.contains b) (by decide +kernel) b
  exact eq_of_beq h

theorem nameOk_true {l : List UInt8} (h : nameOk l = true) : ∃ b r, l = b :: r ∧ (b :: r).length ≤ 20 ∧ (trimS (b :: r) nameSet) = [] ∧ digB b = false := by
  cases l with
  | nil => simp [nameOk] at h
  | cons b r =>
    simp only [nameOk, Bool.and_eq_true, decide_eq_true_eq, Bool.not_eq_true', headDig] at h
    obtain ⟨⟨⟨_, h1⟩, h2⟩, h3⟩ := h
    refine ⟨b, r, rfl, h1, ?_, h3⟩
    have := trim_name (b :: r)
    rw [h2] at this
    exact List.isEmpty_iff.1 this

theorem nameOk_false {l : List UInt8} (h : nameOk l = false) : l = [] ∨ 20 < l.length ∨ (∃ b r, l = b :: r ∧ (b :: r).length ≤ 20 ∧ trimS (b :: r) nameSet ≠ []) ∨ (∃ b r, l = b :: r ∧ (b :: r).length ≤ 20 ∧ trimS (b :: r) nameSet = [] ∧ digB b = true) := by
  cases l with
  | nil => exact Or.inl rfl
  | cons b r =>
    by_cases h1 : (b :: r).length ≤ 20
    · have ht := trim_name (b :: r)
      by_cases h2 : trimS (b :: r) nameSet = []
      · refine Or.inr (Or.inr (Or.inr ⟨b, r, rfl, h1, h2, ?_⟩))
        rw [h2] at ht
        simp only [nameOk, ← ht, headDig, h1] at h
        simpa using h
      · exact Or.inr (Or.inr (Or.inl ⟨b, r, rfl, h1, h2⟩))
    · exact Or.inr (Or.inl (by omega))

theorem headDig_append (a b : List UInt8) (h : a ≠ []) : headDig (a ++ b) = headDig a := by
  cases a with
  | nil => exact absurd rfl h
  | cons x r => rfl

/-- one byte of a name replaced -/
theorem nameOk_set (l : List UInt8) (k : Nat) (c : UInt8) (h : nameOk l = true) (hk : k < l.length) :
    nameOk (l.take k ++ [c] ++ l.drop (k + 1)) = (letB c || (digB c && decide (0 < k))) := by
  simp only [nameOk, Bool.and_eq_true, decide_eq_true_eq, Bool.not_eq_true'] at h
  obtain ⟨⟨⟨_, h20⟩, hall⟩, hd⟩ := h
  have hlen : (l.take k ++ [c] ++ l.drop (k + 1)).length = l.length := by simp; omega
  have ht : (l.take k).all (fun b => letB b || digB b) = true := List.all_eq_true.2 fun b hb => List.all_eq_true.1 hall b (List.mem_of_mem_take hb)
  have hdr : (l.drop (k + 1)).all (fun b => letB b || digB b) = true := List.all_eq_true.2 fun b hb => List.all_eq_true.1 hall b (List.mem_of_mem_drop hb)
  have he : (l.take k ++ [c] ++ l.drop (k + 1)).isEmpty = false := by
    rw [List.isEmpty_eq_false_iff]
    exact List.ne_nil_of_length_pos (by rw [hlen]; omega)
  have hletdig : letB c = true → digB c = false := by
    intro h1
    simp only [letB, digB, Bool.or_eq_true, Bool.and_eq_true, decide_eq_true_eq, beq_iff_eq, Bool.and_eq_false_imp, decide_eq_false_iff_not] at *
    omega
  unfold nameOk
  rw [he, decide_eq_true (show (l.take k ++ [c] ++ l.drop (k + 1)).length ≤ 20 by omega)]
  rw [List.all_append, List.all_append, ht, hdr]
  by_cases hk0 : k = 0
  · subst hk0
    simp [headDig]
    cases h1 : letB c <;> cases h2 : digB c <;> simp_all
  · have hne : l.take k ≠ [] := List.ne_nil_of_length_pos (by rw [List.length_take]; omega)
    have hh : headDig (l.take k ++ [c] ++ l.drop (k + 1)) = false := by
      rw [List.append_assoc, headDig_append _ _ hne]
      clear hlen
      cases l with
      | nil => simp at hk
      | cons x r =>
        cases k with
        | zero => exact absurd rfl hk0
        | succ k => exact hd
    rw [hh]
    have hp : 0 < k := Nat.pos_of_ne_zero hk0
    simp [hp]

end Go.Proofs.YtokomofjcnefaaaDoor
