/-
  The walk of coffeehousesame.Texts at two readings of one list; lists of classes that grow.
-/
import Derived.Test.YtpkhfcbkadkadaaGreatDoorWld
import Derived.BigQuiet
import Derived.Deep.QuietTactic
namespace Go.Proofs.YtpkhfcbkadkadaaGreatDoor
set_option linter.unusedVariables false
set_option linter.unusedSimpArgs false
open Go.RowKit Go.Shelf Go.Lib

set_option maxRecDepth 100000 in
set_option maxHeartbeats 1000000 in
theorem texts_same (A : List Nm) (a a' : Option Addr) (c c' : Nat) (w : World) (h : SRow w a c A) (h' : SRow w a' c' A) (hl : A.length ≤ 1000000) :
    Calls Tryz.prog 44 #[.slice a A.length c, .slice a' A.length c'] w fun e w' => e = .returned (.bool true) ∧ Below w.heap.size w w' := by
  have HR := Lib.hid h
  have HR' := Lib.hid h'
  clear h h'
  go_enter Tryz.func44, Tryz.ntmps44
  go_wp2_with fail
  go_loopw [5] (fun i wr => ∃ k : Nat, k ≤ A.length ∧ i = .int .i64 k ∧ Below w.heap.size w wr) (fun i _ => A.length - (RowKit.intOf i).toNat)
  case atStart => exact ⟨0, by omega, rfl, Below.refl _ _⟩
  case round =>
    obtain ⟨k, hk, rfl, hwr⟩ := hrel
    by_cases hlk : k < A.length
    · obtain ⟨t, ht⟩ : ∃ t, A[k]? = some t := ⟨_, List.getElem?_eq_getElem hlk⟩
      obtain ⟨b, off, rfl, _, c1⟩ := strs_cell (HR.out.below hwr) ht
      obtain ⟨b', off', rfl, _, c2⟩ := strs_cell (HR'.out.below hwr) ht
      have HW := Lib.hid hwr
      have i0 : (0 : Int) ≤ (k : Int) := by omega
      have i1 : (k : Int) < (A.length : Int) := by omega
      clear ht hwr HR HR'
      go_wp2_with fail
      go_quiet (fail)
      go_wp2_with fail
      go_roundw
      case rel => exact ⟨k + 1, by omega, by go_num, HW.out.trans ⟨rfl, rfl, rfl, Nat.le_refl _, fun _ _ => rfl⟩⟩
      case measure => simp [RowKit.intOf]; omega
    · obtain rfl : k = A.length := by omega
      have HW := Lib.hid hwr
      clear hwr
      go_wp2_with fail
      go_ret
      exact ⟨rfl, HW.out⟩

theorem rowClass : RowT Tryz.prog 22 41 6 112 := RowT.mk' (z := .agg #[.string ByteArray.empty, .string ByteArray.empty, .slice none 0 0, .bool false, .slice none 0 0, .slice none 0 0]) Tryz.underlying22 (by kernel_rfl) rfl (by decide)

theorem src_of_rows {w : World} {a : Option Addr} {cap size : Nat} {L : List (List Value)} (h : RowsAt w size a cap L) (hs : 0 < size) (hL : ∀ c ∈ L, c.length = size) (h1 : ∀ c ∈ L, ∀ u ∈ c, u.oneCell' = true) : Src0 w size (.slice a L.length cap) L.length L.flatten := by
  have hlen : L.flatten.length = L.length * size := by
    clear h h1
    induction L with
    | nil => simp
    | cons x r ih => simp only [List.flatten_cons, List.length_append, ih (fun c hc => hL c (by simp [hc])), List.length_cons, hL x (by simp), Nat.succ_mul]; omega
  have hone : ∀ u ∈ L.flatten, u.oneCell' = true := by
    intro u hu
    obtain ⟨c, hc, hu⟩ := List.mem_flatten.1 hu
    exact h1 c hc u hu
  obtain ⟨hle, h2 | ⟨b, off, rfl, _, hc⟩⟩ := h
  · subst h2
    cases a with
    | none => exact Or.inl ⟨cap, rfl, rfl, rfl⟩
    | some ad => exact Or.inr ⟨hlen, hone, Or.inr ⟨ad, cap, rfl, fun j u hj => by simp at hj⟩⟩
  · refine Or.inr ⟨hlen, hone, Or.inr ⟨_, cap, rfl, fun j u hj => ?_⟩⟩
    obtain ⟨cs, h3, h4⟩ := flat_at _ size j u hs hL hj
    have h5 := hc (j / size) cs h3 (j % size) u h4
    have e : (⟨b, off, none⟩ : Addr).add j = ⟨b, off + j / size * size + j % size, none⟩ := by
      have e1 : (⟨b, off, none⟩ : Addr).add j = ⟨b, off + j, none⟩ := by unfold Addr.add; split <;> simp_all
      rw [e1]
      congr 1
      have := Nat.div_add_mod j size
      rw [Nat.mul_comm] at this
      omega
    rw [e]; exact h5


theorem zipc_size : ∀ (l : List ClassR) (ps : List CAddr), ∀ x ∈ List.zipWith classCells l ps, x.length = 6
  | [], _, x, h => by simp at h
  | _ :: _, [], x, h => by simp at h
  | m :: l, p :: ps, x, h => by
    simp only [List.zipWith_cons_cons, List.mem_cons] at h
    rcases h with rfl | h
    · rfl
    · exact zipc_size l ps x h
theorem zipc_one : ∀ (l : List ClassR) (ps : List CAddr), ∀ x ∈ List.zipWith classCells l ps, ∀ u ∈ x, u.oneCell' = true
  | [], _, x, h => by simp at h
  | _ :: _, [], x, h => by simp at h
  | m :: l, p :: ps, x, h => by
    simp only [List.zipWith_cons_cons, List.mem_cons] at h
    rcases h with rfl | h
    · intro u hu
      simp only [classCells, List.mem_cons, List.mem_nil_iff, or_false] at hu
      rcases hu with rfl | rfl | rfl | rfl | rfl | rfl <;> rfl
    · exact zipc_one l ps x h
theorem src_of_classes {w : World} {a : Option Addr} {cap : Nat} {l : List ClassR} {ps : List CAddr} (h : ClassesAt w a cap l ps) : Src0 w 6 (.slice a l.length cap) l.length (List.zipWith classCells l ps).flatten := by
  have := src_of_rows h.2.1 (by omega) (zipc_size _ _) (zipc_one _ _)
  have e : (List.zipWith classCells l ps).length = l.length := by rw [List.length_zipWith, h.1]; omega
  rwa [e] at this
theorem classes_own {W w : World} {B : Nat} {a A : Option Addr} {cap C : Nat} {l : List ClassR} {ps : List CAddr} {c : ClassR} {p : CAddr} (h : ClassesAt w a cap l ps) (hc : ∀ cp ∈ l.zip ps, ClassAt W cp.1 cp.2) (hn : ClassAt W c p)
    (ho : W.ownsRow B 41 6 (.slice A (l.length + 1) C) (l.length + 1) ((List.zipWith classCells l ps).flatten ++ classCells c p)) : ClassesAt W A C (l ++ [c]) (ps ++ [p]) := by
  obtain ⟨h1, h2, h3⟩ := h
  have e : (List.zipWith classCells l ps).length = l.length := by rw [List.length_zipWith, h1]; omega
  have h4 : W.ownsRow B 41 6 (.slice A (l.length + 1) C) (List.zipWith classCells l ps ++ [classCells c p]).length (List.zipWith classCells l ps ++ [classCells c p]).flatten := by simpa [e] using ho
  obtain ⟨a', cap', hv, hr⟩ := rows_of_own h4 (by intro x hx; rcases List.mem_append.1 hx with q | q; exact zipc_size _ _ x q; rw [List.mem_singleton.1 q]; rfl)
  simp only [Value.slice.injEq] at hv
  obtain ⟨rfl, _, rfl⟩ := hv
  refine ⟨by simp [h1], by rw [List.zipWith_append h1.symm]; exact hr, ?_⟩
  intro j c' p' hc' hp'
  rw [List.getElem?_append] at hc' hp'
  by_cases hj : j < l.length
  · rw [if_pos hj] at hc'
    rw [if_pos (by omega)] at hp'
    exact hc (c', p') (List.mem_of_getElem? (List.getElem?_zip_eq_some.2 ⟨hc', hp'⟩))
  · rw [if_neg hj] at hc'
    rw [if_neg (by omega)] at hp'
    have e0 : j - l.length = 0 := by
      have := (List.getElem?_eq_some_iff.1 hc').1
      simp at this; omega
    rw [e0] at hc'
    rw [show j - ps.length = 0 by omega] at hp'
    simp at hc' hp'
    subst hc' hp'
    exact hn
theorem classes_each {w : World} {a : Option Addr} {cap : Nat} {l : List ClassR} {ps : List CAddr} (h : ClassesAt w a cap l ps) : ∀ cp ∈ l.zip ps, ClassAt w cp.1 cp.2 := by
  intro cp hcp
  obtain ⟨j, hj, rfl⟩ := List.getElem_of_mem hcp
  have hz := List.getElem?_eq_getElem hj
  have hz' : (l.zip ps)[j]? = some ((l.zip ps)[j].1, (l.zip ps)[j].2) := hz
  rw [List.getElem?_zip_eq_some] at hz'
  exact h.2.2 j _ _ hz'.1 hz'.2
theorem zero_at (W : World) (c : ClassR) (h1 : c.faces = []) (h2 : c.fields = []) (h3 : c.meths = []) : ClassAt W c nilP := by
  unfold ClassAt nilP
  rw [h1, h2, h3]
  exact ⟨⟨Nat.le_refl _, Or.inl rfl⟩, ⟨Nat.le_refl _, Or.inl rfl⟩, ⟨rfl, ⟨Nat.le_refl _, Or.inl rfl⟩, fun k m p hm => by simp at hm⟩⟩

/-- what All and Supers give, taken apart -/
def ListV (err : Int) (A : List Nm) (W : World) (v ev : Value) : Prop := (err ≠ 0 ∧ v = .slice none 0 0 ∧ ev = errV err) ∨ (err = 0 ∧ ev = .nilIface ∧ ∃ a cap, v = .slice a A.length cap ∧ SRow W a cap A)
theorem ListV.below {err : Int} {A : List Nm} {W W' : World} {v ev : Value} (h : ListV err A W v ev) (hb : Below W.heap.size W W') : ListV err A W' v ev := by
  rcases h with h | ⟨h1, h2, a, cap, h3, h4⟩
  · exact Or.inl h
  · exact Or.inr ⟨h1, h2, a, cap, h3, h4.below hb⟩
theorem list_open {err : Int} {A : List Nm} {w w' : World} {e : Ending} (h : ListRes err A w e w') : Below w.heap.size w w' ∧ ∃ v ev, e = .returned (.tuple #[v, ev]) ∧ ListV err A w' v ev := by
  obtain ⟨hb, ⟨h1, rfl⟩ | ⟨h1, v, rfl, ho⟩⟩ := h
  · exact ⟨hb, _, _, rfl, Or.inl ⟨h1, rfl, rfl⟩⟩
  · obtain ⟨a, cap, rfl, hs⟩ := srow_of_own ho
    exact ⟨hb, _, _, rfl, Or.inr ⟨h1, rfl, a, cap, rfl, hs⟩⟩
end Go.Proofs.YtpkhfcbkadkadaaGreatDoor
