/-
  Plain law: a heap with one array more is in order; what its values hold.
-/
import Derived.Test.YtanjggdmgeedlaaGreatDoorPHeap
import Derived.Test.YtanjggdmgeedlaaGreatDoorHeap6
import Derived.Test.YtanjggdmgeedlaaGreatDoorPWrap
namespace Go.Proofs.YtanjggdmgeedlaaGreatDoor
set_option linter.unusedVariables false
set_option linter.unusedSimpArgs false
open Go.Lib Go.RowKit

theorem val_more {L : List ClassR} {tys : List Nm} {v : ValR} {t : Nm} (h : valB L tys v t = true) (u : Nm) : valB L (tys ++ [u]) v t = true := by
  unfold valB at h ⊢
  by_cases h1 : v.kind = 1
  · rw [if_pos h1] at h ⊢; exact h
  rw [if_neg h1] at h ⊢
  by_cases h2 : v.kind = 2
  · rw [if_pos h2] at h ⊢; exact h
  rw [if_neg h2] at h ⊢
  by_cases h3 : v.kind = 3
  · rw [if_pos h3] at h ⊢
    rw [Bool.and_eq_true, Bool.and_eq_true, decide_eq_true_eq] at h ⊢
    obtain ⟨⟨ha, hb, hc⟩, hd⟩ := h
    refine ⟨⟨ha, hb, by rw [List.length_append, List.length_singleton]; omega⟩, ?_⟩
    rw [Bool.or_eq_true, decide_eq_true_eq] at hd ⊢
    rcases hd with hd | hd
    · exact Or.inl hd
    · by_cases h0 : v.n = 0
      · exact Or.inl h0
      · refine Or.inr ?_
        have e : (tys ++ [u]).getD (v.n - 1).toNat [] = tys.getD (v.n - 1).toNat [] := by
          rw [List.getD_eq_getElem?_getD, List.getD_eq_getElem?_getD, List.getElem?_append_left (by omega)]
        rw [e]
        exact hd
  · rw [if_neg h3] at h; exact absurd h (by simp)

theorem arr_dt {k : Nm} (h : TypeOk (91 :: k)) : ∃ d b, k = (Kd.ty d b).text ∧ d ≤ 2 ∧ ∀ n, b = .cls n → nameOk n = true := by
  obtain ⟨d, b, e, hd, hn⟩ := type_kd.1 h
  cases d with
  | zero =>
    cases b with
    | int => simp [Kd.text, Bse.text] at e
    | long => simp [Kd.text, Bse.text] at e
    | cls m => simp [Kd.text, Bse.text] at e
  | succ d =>
    rw [arr_one] at e
    simp only [List.cons.injEq, true_and] at e
    exact ⟨d, b, e, by omega, hn⟩
theorem arr_type {k : Nm} (h : TypeOk (91 :: k)) : TypeOk k := by
  obtain ⟨d, b, rfl, hd, hn⟩ := arr_dt h
  exact type_kd.2 ⟨d, b, rfl, by omega, hn⟩
theorem arr_kind {L : List ClassR} {k : Nm} (h : TypeOk (91 :: k)) (hk : kindErr L k = 0) : kindErr L (91 :: k) = 0 := by
  obtain ⟨d, b, rfl, hd, hn⟩ := arr_dt h
  obtain ⟨q, hq, e⟩ := kind_zero.1 hk
  have := text_inj e
  subst this
  rw [← arr_one]
  exact kind_ok (k := .ty (d + 1) b) ⟨by omega, hq.2⟩
theorem kd_num (d : Nat) (b : Bse) : numB (Kd.ty d b).text = !((Kd.ty d b).refs) := by
  cases d with
  | zero => cases b <;> rfl
  | succ d => rfl
theorem zero_val (L : List ClassR) (tys : List Nm) {k : Nm} (h : TypeOk (91 :: k)) : valB L tys (zeroV k) k = true := by
  obtain ⟨d, b, rfl, hd, hn⟩ := arr_dt h
  unfold zeroV
  by_cases h1 : (Kd.ty d b).text = [73]
  · rw [if_pos h1, h1]
    unfold valB
    rw [if_pos rfl]
    simp [wrap32k]
  rw [if_neg h1]
  by_cases h2 : (Kd.ty d b).text = [74]
  · rw [if_pos h2, h2]
    unfold valB
    rw [if_neg (by decide), if_pos rfl]
    rfl
  rw [if_neg h2]
  have hr : (Kd.ty d b).refs = true := by
    cases d with
    | succ d => rfl
    | zero =>
      cases b with
      | int => exact absurd rfl h1
      | long => exact absurd rfl h2
      | cls n => rfl
  unfold valB
  rw [if_neg (by decide), if_neg (by decide), if_pos rfl, ← refs_head, refs_text, hr]
  simp
theorem zeroV_n (k : Nm) : (zeroV k).n = 0 := by unfold zeroV; split <;> (first | rfl | (split <;> rfl))
theorem more_right {L : List ClassR} {X : List ThingR} (h : rightErr L X = 0) {k : Nm} (hT : TypeOk (91 :: k)) (hk : kindErr L k = 0) (h50 : X.length < 50) {m : Nat} (hm : m ≤ 10) : rightErr L (X ++ [⟨91 :: k, List.replicate m (zeroV k)⟩]) = 0 := by
  obtain ⟨h1, h2, h3⟩ := right_zero.1 h
  have hty : typesH L ⟨91 :: k, List.replicate m (zeroV k)⟩ = List.replicate m k := by
    unfold typesH
    rw [if_pos (by rfl)]
    simp
  refine right_zero.2 ⟨by rw [List.length_append, List.length_singleton]; omega, fun x hx => ?_, fun x hx => ?_⟩
  · rcases List.mem_append.1 hx with hx | hx
    · exact h2 x hx
    · rw [List.mem_singleton.1 hx]
      unfold formErr
      rw [hty]
      rw [if_neg, if_neg, if_neg, if_neg]
      · simp; omega
      · rintro ⟨e, _⟩; simp at e
      · intro e; exact e (arr_kind hT hk)
      · rintro (e | e)
        · exact e hT
        · obtain ⟨d, b, e2, _⟩ := arr_dt hT
          simp only [e2, ← arr_one, kd_num] at e
          simp [Kd.refs] at e
  · rw [List.map_append]
    rcases List.mem_append.1 hx with hx | hx
    · have := h3 x hx
      unfold thingB at this ⊢
      rw [List.all_eq_true] at this ⊢
      exact fun i hi => val_more (this i hi) _
    · rw [List.mem_singleton.1 hx]
      unfold thingB
      rw [hty, List.all_eq_true]
      intro i hi
      rw [List.length_replicate, List.mem_range] at hi
      have e1 : (List.replicate m (zeroV k)).getD i ⟨0, 0⟩ = zeroV k := by rw [List.getD_eq_getElem?_getD, List.getElem?_replicate_of_lt hi]; rfl
      have e2 : (List.replicate m k).getD i [] = k := by rw [List.getD_eq_getElem?_getD, List.getElem?_replicate_of_lt hi]; rfl
      show valB L _ ((List.replicate m (zeroV k)).getD i ⟨0, 0⟩) ((List.replicate m k).getD i []) = true
      rw [e1, e2]
      exact zero_val L _ hT
theorem doesT_refl (L : List ClassR) (d : Nat) (b : Bse) : doesT L d b d b = true := by
  cases d with
  | zero => simp [doesT]
  | succ d => simp [doesT]
theorem at_new {L : List ClassR} {X : List ThingR} {k : Nm} (hT : TypeOk (91 :: k)) (l : List ValR) : valB L ((X ++ [(⟨91 :: k, l⟩ : ThingR)]).map (·.ty)) ⟨3, (X.length : Int) + 1⟩ (91 :: k) = true := by
  obtain ⟨d, b, rfl, hd, hn⟩ := arr_dt hT
  unfold valB
  rw [if_neg (show ¬ (3 : Int) = 1 by decide), if_neg (show ¬ (3 : Int) = 2 by decide), if_pos rfl]
  have e : (((X ++ [(⟨91 :: (Kd.ty d b).text, l⟩ : ThingR)]).map (·.ty)).getD ((X.length : Int) + 1 - 1).toNat []) = (Kd.ty (d + 1) b).text := by
    have : ((X.length : Int) + 1 - 1).toNat = X.length := by omega
    rw [this, List.getD_eq_getElem?_getD, List.map_append, List.getElem?_append_right (by simp)]
    simp [arr_one]
  rw [e, ← arr_one, doesN_text]
  simp only [List.length_map, List.length_append, List.length_singleton]
  have h1 : decide ((0 : Int) ≤ (X.length : Int) + 1 ∧ (X.length : Int) + 1 ≤ ((X.length + 1 : Nat) : Int)) = true := decide_eq_true (by omega)
  have h2 : doesK L (.ty (d + 1) b) (.ty (d + 1) b) = true := doesT_refl L _ _
  rw [h1, h2]
  simp [arr_one]
end Go.Proofs.YtanjggdmgeedlaaGreatDoor
