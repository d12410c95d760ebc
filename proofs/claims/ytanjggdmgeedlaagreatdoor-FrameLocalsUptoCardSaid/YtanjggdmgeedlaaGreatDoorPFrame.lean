/-
  Plain law (no program): what both kinds are does not depend on their order, and is above each.
-/
import Derived.Test.YtanjggdmgeedlaaGreatDoorPLine2
namespace Go.Proofs.YtanjggdmgeedlaaGreatDoor
set_option linter.unusedVariables false
set_option linter.unusedSimpArgs false

theorem joinT_comm {l : List ClassR} (hg : Good l) {b b' : Bse} (hb : b.Ok (wl l)) (hb' : b'.Ok (wl l)) : ∀ (d d' : Nat), joinT (wl l) d b d' b' = joinT (wl l) d' b' d b
  | 0, 0 => by
    unfold joinT
    by_cases e : b = b'
    · subst e; rfl
    · rw [if_neg e, if_neg (show ¬ b' = b from fun h => e h.symm)]
      cases b <;> cases b' <;> first | rfl | (simp only [Bse.isRef, Bse.cl, Bool.and_self, if_true]; rw [joinC_comm hg (look_some.1 hb.2) (look_some.1 hb'.2)])
  | d + 1, 0 => by unfold joinT; rfl
  | 0, d + 1 => by unfold joinT; rfl
  | d + 1, d' + 1 => by
    have ih := joinT_comm hg hb hb' d d'
    unfold joinT
    by_cases e : d = d' ∧ b = b'
    · obtain ⟨rfl, rfl⟩ := e
      rfl
    · rw [if_neg e, if_neg (show ¬ (d' = d ∧ b' = b) from fun h => e ⟨h.1.symm, h.2.symm⟩), ih, Bool.and_comm]
theorem joinK_comm {l : List ClassR} (hg : Good l) {a b : Kd} (ha : a.Ok (wl l)) (hb : b.Ok (wl l)) : joinK (wl l) a b = joinK (wl l) b a := by
  cases a <;> cases b <;> simp only [joinK]
  exact joinT_comm hg ha.2 hb.2 _ _

theorem obj_ok (l : List ClassR) : (Bse.cls objN).Ok (wl l) := ⟨by decide, look_some.2 (obj_names l)⟩
/-- two refs' join is a ref, not deeper than the first -/
theorem joinT_ref {l : List ClassR} (hg : Good l) {b b' : Bse} (hb : b.Ok (wl l)) (hb' : b'.Ok (wl l)) : ∀ (d d' : Nat), (Kd.ty d b).refs = true → (Kd.ty d' b').refs = true → ∃ e c, joinT (wl l) d b d' b' = .ty e c ∧ e ≤ d ∧ c.Ok (wl l) ∧ (Kd.ty e c).refs = true
  | 0, 0, h, h' => by
    simp only [Kd.refs] at h h'
    unfold joinT
    by_cases e : b = b'
    · rw [if_pos e]; exact ⟨0, b, rfl, Nat.le_refl _, hb, h⟩
    · rw [if_neg e, if_pos (by rw [h, h']; rfl)]
      refine ⟨0, _, rfl, Nat.le_refl _, ?_, rfl⟩
      cases b with
      | int => cases h
      | long => cases h
      | cls x =>
        cases b' with
        | int => cases h'
        | long => cases h'
        | cls y =>
          have hj := joinC_names hg (look_some.1 hb.2) (look_some.1 hb'.2)
          exact ⟨good_nameOk hg hj, look_some.2 hj⟩
  | d + 1, 0, h, h' => by
    simp only [Kd.refs] at h'
    unfold joinT
    rw [if_pos h']
    exact ⟨0, _, rfl, by omega, obj_ok l, rfl⟩
  | 0, d + 1, h, h' => by
    simp only [Kd.refs] at h
    unfold joinT
    rw [if_pos h]
    exact ⟨0, _, rfl, by omega, obj_ok l, rfl⟩
  | d + 1, d' + 1, h, h' => by
    have ih := joinT_ref hg hb hb' d d'
    unfold joinT
    by_cases e : d = d' ∧ b = b'
    · rw [if_pos e]; exact ⟨d + 1, b, rfl, Nat.le_refl _, hb, rfl⟩
    · rw [if_neg e]
      cases hr : ((Kd.ty d b).refs && (Kd.ty d' b').refs) with
      | true =>
        rw [if_pos rfl]
        simp only [Bool.and_eq_true] at hr
        obtain ⟨e', c, h1, h2, h3, h4⟩ := ih hr.1 hr.2
        rw [h1]
        exact ⟨e' + 1, c, rfl, by omega, h3, rfl⟩
      | false =>
        rw [if_neg (by simp)]
        exact ⟨0, _, rfl, by omega, obj_ok l, rfl⟩
theorem joinT_top {L : List ClassR} {b b' : Bse} : ∀ (d d' : Nat), ((Kd.ty d b).refs && (Kd.ty d' b').refs) = false → joinT L d b d' b' = .top ∨ (d = d' ∧ b = b' ∧ joinT L d b d' b' = .ty d b)
  | 0, 0, h => by
    simp only [Kd.refs] at h
    unfold joinT
    by_cases e : b = b'
    · rw [if_pos e]; exact Or.inr ⟨rfl, e, rfl⟩
    · rw [if_neg e, if_neg (by rw [h]; simp)]; exact Or.inl rfl
  | d + 1, 0, h => by
    simp only [Kd.refs, Bool.true_and] at h
    unfold joinT
    rw [if_neg (by rw [h]; simp)]; exact Or.inl rfl
  | 0, d + 1, h => by
    simp only [Kd.refs, Bool.and_true] at h
    unfold joinT
    rw [if_neg (by rw [h]; simp)]; exact Or.inl rfl
  | d + 1, d' + 1, h => by simp [Kd.refs] at h
theorem joinT_ok {l : List ClassR} (hg : Good l) {b b' : Bse} {d d' : Nat} (h : (Kd.ty d b).Ok (wl l)) (h' : (Kd.ty d' b').Ok (wl l)) : (joinT (wl l) d b d' b').Ok (wl l) := by
  cases hr : ((Kd.ty d b).refs && (Kd.ty d' b').refs) with
  | true =>
    simp only [Bool.and_eq_true] at hr
    obtain ⟨e, c, h1, h2, h3, _⟩ := joinT_ref hg h.2 h'.2 d d' hr.1 hr.2
    rw [h1]
    exact ⟨Nat.le_trans h2 h.1, h3⟩
  | false =>
    rcases joinT_top (L := wl l) d d' hr with h1 | ⟨_, _, h1⟩
    · rw [h1]; trivial
    · rw [h1]; exact h
theorem joinK_ok {l : List ClassR} (hg : Good l) {a b : Kd} (ha : a.Ok (wl l)) (hb : b.Ok (wl l)) : (joinK (wl l) a b).Ok (wl l) := by
  cases a <;> cases b <;> simp only [joinK]
  all_goals first | trivial | exact joinT_ok hg ha hb | (split <;> first | trivial | assumption)

theorem joinT_self (L : List ClassR) : ∀ (d : Nat) (b : Bse), joinT L d b d b = .ty d b
  | 0, b => by unfold joinT; rw [if_pos rfl]
  | d + 1, b => by unfold joinT; rw [if_pos ⟨rfl, rfl⟩]
theorem joinT_obj {l : List ClassR} (hg : Good l) {b : Bse} (hb : b.Ok (wl l)) : ∀ (d : Nat), (Kd.ty d b).refs = true → joinT (wl l) d b 0 (.cls objN) = .ty 0 (.cls objN)
  | 0, h => by
    simp only [Kd.refs] at h
    unfold joinT
    by_cases e : b = .cls objN
    · rw [if_pos e, e]
    · rw [if_neg e, if_pos (by rw [h]; rfl)]
      cases b with
      | int => cases h
      | long => cases h
      | cls x =>
        have hx := look_some.1 hb.2
        show Kd.ty 0 (.cls (joinC (wl l) x objN)) = _
        congr 2
        cases hf : ((look (wl l) x).elim false (·.face) || (look (wl l) objN).elim false (·.face)) with
        | true => exact joinC_face hf
        | false =>
          rw [joinC_line hf]
          exact obj_line hg (common_spec hg hx (obj_names l)).2.1
  | d + 1, h => by unfold joinT; rfl
theorem joinT_above {l : List ClassR} (hg : Good l) {b b' : Bse} (hb : b.Ok (wl l)) (hb' : b'.Ok (wl l)) : ∀ (d d' : Nat), (Kd.ty d b).refs = true → (Kd.ty d' b').refs = true → ∀ e c, joinT (wl l) d b d' b' = .ty e c → joinT (wl l) d b e c = .ty e c
  | 0, 0, h, h', e, c, hj => by
    simp only [Kd.refs] at h h'
    unfold joinT at hj
    by_cases e1 : b = b'
    · rw [if_pos e1] at hj
      cases hj
      exact joinT_self _ 0 b
    · rw [if_neg e1, if_pos (by rw [h, h']; rfl)] at hj
      cases hj
      cases b with
      | int => cases h
      | long => cases h
      | cls x =>
        cases b' with
        | int => cases h'
        | long => cases h'
        | cls y =>
          simp only [Bse.cl]
          unfold joinT
          split
          · rename_i e2; rw [e2]
          · rw [if_pos (show ((Bse.cls x).isRef && (Bse.cls (joinC (wl l) x y)).isRef) = true from rfl)]
            simp only [Bse.cl]
            rw [joinC_above hg (look_some.1 hb.2) (look_some.1 hb'.2)]
  | d + 1, 0, h, h', e, c, hj => by
    simp only [Kd.refs] at h'
    unfold joinT at hj
    rw [if_pos h'] at hj
    cases hj
    exact joinT_obj hg hb _ h
  | 0, d + 1, h, h', e, c, hj => by
    have h0 := h
    simp only [Kd.refs] at h
    unfold joinT at hj
    rw [if_pos h] at hj
    cases hj
    exact joinT_obj hg hb _ h0
  | d + 1, d' + 1, h, h', e, c, hj => by
    have ih := joinT_above hg hb hb' d d'
    unfold joinT at hj
    by_cases e1 : d = d' ∧ b = b'
    · rw [if_pos e1] at hj
      cases hj
      exact joinT_self _ _ b
    · rw [if_neg e1] at hj
      cases hr : ((Kd.ty d b).refs && (Kd.ty d' b').refs) with
      | true =>
        rw [hr, if_pos rfl] at hj
        simp only [Bool.and_eq_true] at hr
        obtain ⟨e', c', h1, _, _, h4⟩ := joinT_ref hg hb hb' d d' hr.1 hr.2
        rw [h1] at hj
        simp only [Kd.up] at hj
        cases hj
        have h5 := ih hr.1 hr.2 e' c h1
        unfold joinT
        split
        · rename_i e2
          rw [e2.1, e2.2]
        · rw [if_pos (by rw [hr.1, h4]; rfl), h5]
          rfl
      | false =>
        rw [hr, if_neg (by simp)] at hj
        cases hj
        exact joinT_obj hg hb _ h
theorem joinK_self (L : List ClassR) (k : Kd) : joinK L k k = k := by
  cases k with
  | nul => rfl
  | top => rfl
  | ty d b => exact joinT_self L d b
theorem joinK_top (L : List ClassR) (k : Kd) : joinK L k .top = .top := by cases k <;> rfl
theorem joinK_above {l : List ClassR} (hg : Good l) {a b : Kd} (ha : a.Ok (wl l)) (hb : b.Ok (wl l)) : joinK (wl l) a (joinK (wl l) a b) = joinK (wl l) a b := by
  cases a with
  | top => rfl
  | nul =>
    cases b with
    | nul => rfl
    | top => rfl
    | ty d b =>
      have e : joinK (wl l) .nul (.ty d b) = if (Kd.ty d b).refs = true then .ty d b else .top := rfl
      rw [e]
      by_cases h : (Kd.ty d b).refs = true
      · rw [if_pos h]; exact e.trans (if_pos h)
      · rw [if_neg h]; rfl
  | ty d x =>
    cases b with
    | nul =>
      have e : joinK (wl l) (.ty d x) .nul = if (Kd.ty d x).refs = true then .ty d x else .top := rfl
      rw [e]
      by_cases h : (Kd.ty d x).refs = true
      · rw [if_pos h]; exact joinT_self _ d x
      · rw [if_neg h]; rfl
    | top => rfl
    | ty d' x' =>
      show joinK (wl l) (.ty d x) (joinT (wl l) d x d' x') = joinT (wl l) d x d' x'
      cases hr : ((Kd.ty d x).refs && (Kd.ty d' x').refs) with
      | true =>
        simp only [Bool.and_eq_true] at hr
        obtain ⟨e, c, h1, _⟩ := joinT_ref hg ha.2 hb.2 d d' hr.1 hr.2
        rw [h1]
        exact joinT_above hg ha.2 hb.2 d d' hr.1 hr.2 e c h1
      | false =>
        rcases joinT_top (L := wl l) d d' hr with h1 | ⟨_, _, h1⟩
        · rw [h1]; rfl
        · rw [h1]; exact joinT_self _ d x
end Go.Proofs.YtanjggdmgeedlaaGreatDoor
