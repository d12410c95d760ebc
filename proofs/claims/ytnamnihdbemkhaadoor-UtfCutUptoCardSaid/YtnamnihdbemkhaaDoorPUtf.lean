/-
  Plain law (no program): the encoding of 16-bit units is a prefix code.
-/
import Derived.RowKit
import Derived.Laws.BitsAllLaws
namespace Go.Proofs.YtnamnihdbemkhaaDoor
set_option linter.unusedVariables false
set_option linter.unusedSimpArgs false
open Go

/-- the bytes of one unit -/
def enc1 (u : Int) : List Int :=
  if 0 < u ∧ u < 128 then [u] else if u < 2048 then [192 + u / 64, 128 + u % 64] else [224 + u / 4096, 128 + u / 64 % 64, 128 + u % 64]
def enc (l : List Int) : List Int := l.flatMap enc1

theorem enc_cons (u : Int) (l : List Int) : enc (u :: l) = enc1 u ++ enc l := by simp [enc]
theorem enc_append (a b : List Int) : enc (a ++ b) = enc a ++ enc b := by simp [enc]
theorem enc1_len (u : Int) : 1 ≤ (enc1 u).length ∧ (enc1 u).length ≤ 3 := by
  unfold enc1; split
  · simp
  · split <;> simp
theorem enc_len (l : List Int) : l.length ≤ (enc l).length ∧ (enc l).length ≤ 3 * l.length := by
  induction l with
  | nil => simp [enc]
  | cons u l ih =>
    rw [enc_cons, List.length_append, List.length_cons]
    have := enc1_len u
    omega
theorem enc1_byte (u : Int) (h0 : 0 ≤ u) (h1 : u < 65536) : ∀ x ∈ enc1 u, 0 ≤ x ∧ x < 256 := by
  intro x hx
  unfold enc1 at hx
  split at hx
  · simp at hx; omega
  · split at hx
    · simp at hx; omega
    · simp at hx; omega
theorem enc_byte (l : List Int) (h : ∀ u ∈ l, 0 ≤ u ∧ u < 65536) : ∀ x ∈ enc l, 0 ≤ x ∧ x < 256 := by
  intro x hx
  simp only [enc, List.mem_flatMap] at hx
  obtain ⟨u, hu, hx⟩ := hx
  exact enc1_byte u (h u hu).1 (h u hu).2 x hx

/-- two units' encodings do not begin one another -/
theorem enc1_prefix (u v : Int) (hu : 0 ≤ u ∧ u < 65536) (hv : 0 ≤ v ∧ v < 65536) (r s : List Int) (h : enc1 u ++ r = enc1 v ++ s) : u = v ∧ r = s := by
  by_cases a1 : 0 < u ∧ u < 128 <;> by_cases b1 : 0 < v ∧ v < 128 <;> by_cases a2 : u < 2048 <;> by_cases b2 : v < 2048 <;>
    simp only [enc1, a1, b1, a2, b2, and_self, if_true, if_false, List.cons_append, List.nil_append, List.cons.injEq] at h
  all_goals first | (exfalso; omega) | exact ⟨h.1, h.2⟩ | exact ⟨by omega, h.2.2⟩ | exact ⟨by omega, h.2.2.2⟩

theorem enc1_ne (u : Int) : enc1 u ≠ [] := by
  have := enc1_len u
  intro h; rw [h] at this; simp at this

/-- units whose encoding begins an encoding begin the units -/
theorem enc_prefix : ∀ (u l : List Int), (∀ x ∈ u, 0 ≤ x ∧ x < 65536) → (∀ x ∈ l, 0 ≤ x ∧ x < 65536) → ∀ r, enc u ++ r = enc l → u = l.take u.length ∧ u.length ≤ l.length
  | [], l, _, _, r, _ => by simp
  | x :: u, [], hu, _, r, h => by
    exfalso
    rw [enc_cons] at h
    have h1 := congrArg List.length h
    have := enc1_len x
    rw [List.length_append, List.length_append] at h1
    simp only [enc, List.flatMap_nil, List.length_nil] at h1
    omega
  | x :: u, y :: l, hu, hl, r, h => by
    rw [enc_cons, enc_cons, List.append_assoc] at h
    obtain ⟨rfl, h2⟩ := enc1_prefix x y (hu x (by simp)) (hl y (by simp)) _ _ h
    obtain ⟨h3, h4⟩ := enc_prefix u l (fun z hz => hu z (by simp [hz])) (fun z hz => hl z (by simp [hz])) r h2
    refine ⟨?_, by simp; omega⟩
    simp only [List.length_cons, List.take_succ_cons]
    rw [← h3]

theorem or_and63 (u : Int) (h0 : 0 ≤ u) (h1 : u < 65536) : bits .or .u8 128 (bits .and .u16 u 63 % 256) = 128 + u % 64 := by
  obtain ⟨n, rfl⟩ := Int.eq_ofNat_of_zero_le h0
  have e1 : bits .and .u16 (n : Int) 63 = ((n % 64 : Nat) : Int) := by
    rw [u16_and (n : Int) 63 (by omega) (by omega) (by omega) (by omega)]
    rw [show ((n : Int).toNat &&& (63 : Int).toNat : Nat) = n % 64 from by rw [Int.toNat_natCast]; exact nat_mask6 n]
  rw [e1]
  have e2 : ((n % 64 : Nat) : Int) % 256 = ((n % 64 : Nat) : Int) := by omega
  rw [e2, u8_or 128 _ (by omega) (by omega) (by omega) (by omega)]
  rw [Int.toNat_natCast]
  have e3 : ((128 : Int).toNat ||| n % 64 : Nat) = 128 + n % 64 := nat_join 6 128 (n % 64) (by decide) (by omega)
  rw [e3]
  omega
theorem or_and63_0 : bits .or .u8 128 (bits .and .u16 0 63 % 256) = 128 := by decide
end Go.Proofs.YtnamnihdbemkhaaDoor
