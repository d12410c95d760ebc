/-
  Plain law (no program): lines end alike; the first class that two lines share.
-/
import Derived.Test.YtanjggdmgeedlaaGreatDoorPKind
namespace Go.Proofs.YtanjggdmgeedlaaGreatDoor
set_option linter.unusedVariables false
set_option linter.unusedSimpArgs false

theorem supers_stable {L : List ClassR} : ∀ (f : Nat) (n : Nm), (supers L f n).length < f → supers L (f + 1) n = supers L f n
  | 0, n, h => by omega
  | f + 1, n, h => by
    unfold supers at h ⊢
    cases hl : look L n with
    | none => rfl
    | some c =>
      rw [hl] at h
      simp only at h ⊢
      by_cases hs : c.sup = []
      · rw [if_pos hs, if_pos hs]
      · rw [if_neg hs] at h ⊢
        rw [if_neg hs]
        rw [supers_stable f c.sup (by simp only [List.length_cons] at h; omega)]
theorem line_len13 {l : List ClassR} (hg : Good l) (n : Nm) : (line (wl l) n).length ≤ 13 := by
  obtain ⟨cur, h, _⟩ := line_end hg n
  exact h.len hg
theorem supers_pre {L : List ClassR} : ∀ (f : Nat) (n : Nm), ∃ r, supers L (f + 1) n = supers L f n ++ r
  | 0, n => ⟨supers L 1 n, rfl⟩
  | f + 1, n => by
    cases hl : look L n with
    | none => exact ⟨[], by unfold supers; rw [hl]; rfl⟩
    | some c =>
      by_cases hs : c.sup = []
      · exact ⟨[], by unfold supers; rw [hl]; simp [hs]⟩
      · obtain ⟨r, hr⟩ := supers_pre f c.sup
        refine ⟨r, ?_⟩
        conv => lhs; unfold supers
        conv => rhs; unfold supers
        rw [hl]
        simp only [hs, if_false]
        rw [hr]; rfl
theorem line_cons {l : List ClassR} (hg : Good l) {n : Nm} {c : ClassR} (hc : look (wl l) n = some c) (hs : c.sup ≠ []) : line (wl l) n = n :: line (wl l) c.sup := by
  have h1 := line_len13 hg c.sup
  unfold line at h1 ⊢
  simp only [List.length_cons] at h1
  have e : supers (wl l) 100 n = c.sup :: supers (wl l) 99 c.sup := by
    rw [supers, hc]
    simp [hs]
  obtain ⟨r, hr⟩ := supers_pre (L := wl l) 99 c.sup
  have h2 : (supers (wl l) 99 c.sup).length < 99 := by
    have : (supers (wl l) 100 c.sup).length = _ := congrArg List.length hr
    rw [List.length_append] at this
    omega
  rw [e, supers_stable 99 c.sup h2]
theorem line_suffix {l : List ClassR} (hg : Good l) {d c : Nm} (h : c ∈ line (wl l) d) : ∃ pre, line (wl l) d = pre ++ line (wl l) c := by
  rw [line_rs hg] at h
  induction h with
  | refl => exact ⟨[], rfl⟩
  | @step x c hx h1 h2 ih =>
    obtain ⟨pre, hp⟩ := ih
    rw [line_cons hg h1 h2] at hp
    exact ⟨pre ++ [x], by rw [hp]; simp⟩
theorem line_nodup {l : List ClassR} (hg : Good l) (n : Nm) : (line (wl l) n).Nodup := by
  obtain ⟨cur, h, _⟩ := line_end hg n
  exact h.nd
theorem rs_names {l : List ClassR} (hg : Good l) {n x : Nm} (hn : n ∈ names l) (h : Rs (wl l) n x) : x ∈ names l := by
  rcases rc_names hg.join h.rc with e | e
  · rw [e]; exact hn
  · exact e
/-- two names above each other are one -/
theorem rs_anti {l : List ClassR} (hg : Good l) {a b : Nm} (h : Rs (wl l) a b) (k : Rs (wl l) b a) : a = b := by
  by_cases e : a = b
  · exact e
  exfalso
  have gen : ∀ {x y : Nm}, Rs (wl l) x y → x = y ∨ ∃ c, look (wl l) x = some c ∧ c.sup ≠ [] ∧ Rs (wl l) c.sup y := by
    intro x y h
    induction h with
    | refl => exact Or.inl rfl
    | step hx h1 h2 ih =>
      right
      rcases ih with ih | ⟨c, hc1, hc2, hc3⟩
      · subst ih
        exact ⟨_, h1, h2, .refl⟩
      · exact ⟨c, hc1, hc2, .step hc3 h1 h2⟩
  rcases gen h with h1 | ⟨c, h1, h2, h3⟩
  · exact e h1
  · exact acyclic hg (sup_above h1 h2) (h3.trans k).rc

theorem face_sup {l : List ClassR} (hg : Good l) {x : Nm} {c : ClassR} (h1 : look (wl l) x = some c) (h2 : c.sup ≠ []) : ∃ d, look (wl l) c.sup = some d ∧ d.face = false := by
  obtain ⟨_, hm⟩ := find_name h1
  unfold wl at hm
  simp only [List.mem_cons] at hm
  rcases hm with rfl | rfl | hm
  · exact absurd rfl h2
  · exact ⟨objC, rfl, rfl⟩
  · obtain ⟨_, _, _, h4, _⟩ := join_parts (hg.join c hm)
    unfold hasErr at h4
    cases hl : look (wl l) c.sup with
    | none => rw [hl] at h4; simp at h4
    | some d =>
      rw [hl] at h4
      simp only [Option.elim] at h4
      refine ⟨d, rfl, ?_⟩
      split at h4
      · assumption
      · omega
theorem line_face {l : List ClassR} (hg : Good l) {a x : Nm} (ha : (look (wl l) a).elim false (·.face) = false) (h : Rs (wl l) a x) : (look (wl l) x).elim false (·.face) = false := by
  induction h with
  | refl => exact ha
  | step _ h1 h2 _ =>
    obtain ⟨d, hd, hf⟩ := face_sup hg h1 h2
    rw [hd]; exact hf

/-! the first that two lines share -/
def common (A B : List Nm) : Nm := (A.find? (fun c => B.contains c)).getD objN
theorem common_spec {l : List ClassR} (hg : Good l) {a b : Nm} (ha : a ∈ names l) (hb : b ∈ names l) : common (line (wl l) a) (line (wl l) b) ∈ line (wl l) a ∧ common (line (wl l) a) (line (wl l) b) ∈ line (wl l) b ∧
    ∀ x ∈ line (wl l) a, x ∈ line (wl l) b → x ∈ line (wl l) (common (line (wl l) a) (line (wl l) b)) := by
  unfold common
  cases hf : (line (wl l) a).find? (fun c => (line (wl l) b).contains c) with
  | none =>
    have h1 := List.find?_eq_none.1 hf objN ((line_rs hg _ _).2 (line_obj hg ha))
    have h2 : objN ∈ line (wl l) b := (line_rs hg _ _).2 (line_obj hg hb)
    simp [h2] at h1
  | some c =>
    rw [List.find?_eq_some_iff_append] at hf
    obtain ⟨h1, as, bs, h2, h3⟩ := hf
    simp only [Option.getD_some]
    have hca : c ∈ line (wl l) a := by rw [h2]; simp
    have hcb : c ∈ line (wl l) b := by simpa using h1
    refine ⟨hca, hcb, ?_⟩
    intro x hx hxb
    obtain ⟨pre, hp⟩ := line_suffix hg hca
    have hnd := line_nodup hg a
    -- the part ahead of c is the same
    have e : pre = as := by
      have hc : line (wl l) c = c :: (line (wl l) c).tail := rfl
      rw [hc] at hp
      rw [h2] at hp hnd
      have gen : ∀ (as pre bs q : List Nm), (as ++ c :: bs).Nodup → as ++ c :: bs = pre ++ c :: q → pre = as := by
        intro as
        induction as with
        | nil =>
          intro pre bs q hn h
          cases pre with
          | nil => rfl
          | cons p pre =>
            simp only [List.nil_append, List.cons_append, List.cons.injEq] at h hn
            obtain ⟨rfl, h⟩ := h
            rw [List.nodup_cons] at hn
            exact absurd (by rw [h]; simp) hn.1
        | cons y as ih =>
          intro pre bs q hn h
          cases pre with
          | nil =>
            simp only [List.nil_append, List.cons_append, List.cons.injEq] at h
            obtain ⟨rfl, h⟩ := h
            simp only [List.cons_append, List.nodup_cons] at hn
            exact absurd (by simp) hn.1
          | cons p pre =>
            simp only [List.cons_append, List.cons.injEq] at h hn
            rw [List.nodup_cons] at hn
            rw [h.1, ih pre bs q hn.2 h.2]
      exact gen _ _ _ _ hnd hp
    subst e
    rw [hp] at hx
    rcases List.mem_append.1 hx with h4 | h4
    · have := h3 x h4
      simp [hxb] at this
    · exact h4
theorem common_comm {l : List ClassR} (hg : Good l) {a b : Nm} (ha : a ∈ names l) (hb : b ∈ names l) : common (line (wl l) a) (line (wl l) b) = common (line (wl l) b) (line (wl l) a) := by
  obtain ⟨h1, h2, h3⟩ := common_spec hg ha hb
  obtain ⟨k1, k2, k3⟩ := common_spec hg hb ha
  have e1 := (line_rs hg _ _).1 (h3 _ k2 k1)
  have e2 := (line_rs hg _ _).1 (k3 _ h2 h1)
  exact rs_anti hg e1 e2
theorem common_uniq {l : List ClassR} (hg : Good l) {a b c : Nm} (ha : a ∈ names l) (hb : b ∈ names l) (h1 : c ∈ line (wl l) a) (h2 : c ∈ line (wl l) b) (h3 : ∀ x ∈ line (wl l) a, x ∈ line (wl l) b → x ∈ line (wl l) c) : common (line (wl l) a) (line (wl l) b) = c := by
  obtain ⟨k1, k2, k3⟩ := common_spec hg ha hb
  exact rs_anti hg ((line_rs hg _ _).1 (k3 _ h1 h2)) ((line_rs hg _ _).1 (h3 _ k1 k2))

theorem joinC_face {L : List ClassR} {a b : Nm} (h : ((look L a).elim false (·.face) || (look L b).elim false (·.face)) = true) : joinC L a b = objN := by unfold joinC; rw [if_pos h]
theorem joinC_line {L : List ClassR} {a b : Nm} (h : ((look L a).elim false (·.face) || (look L b).elim false (·.face)) = false) : joinC L a b = common (line L a) (line L b) := by unfold joinC common; rw [if_neg (by rw [h]; simp)]
theorem obj_names (l : List ClassR) : objN ∈ names l := by simp [names, wl, objC]
theorem joinC_names {l : List ClassR} (hg : Good l) {a b : Nm} (ha : a ∈ names l) (hb : b ∈ names l) : joinC (wl l) a b ∈ names l := by
  cases hf : ((look (wl l) a).elim false (·.face) || (look (wl l) b).elim false (·.face)) with
  | true => rw [joinC_face hf]; exact obj_names l
  | false =>
    rw [joinC_line hf]
    exact rs_names hg ha ((line_rs hg _ _).1 (common_spec hg ha hb).1)
theorem joinC_comm {l : List ClassR} (hg : Good l) {a b : Nm} (ha : a ∈ names l) (hb : b ∈ names l) : joinC (wl l) a b = joinC (wl l) b a := by
  cases hf : ((look (wl l) a).elim false (·.face) || (look (wl l) b).elim false (·.face)) with
  | true => rw [joinC_face hf, joinC_face (by rw [Bool.or_comm]; exact hf)]
  | false => rw [joinC_line hf, joinC_line (by rw [Bool.or_comm]; exact hf), common_comm hg ha hb]
theorem obj_line {l : List ClassR} (hg : Good l) {x : Nm} (h : x ∈ line (wl l) objN) : x = objN := rc_obj ((line_rs hg _ _).1 h).rc
theorem self_line (L : List ClassR) (x : Nm) : x ∈ line L x := by unfold line; simp
/-- what both are stands above each of them -/
theorem joinC_above {l : List ClassR} (hg : Good l) {a b : Nm} (ha : a ∈ names l) (hb : b ∈ names l) : joinC (wl l) a (joinC (wl l) a b) = joinC (wl l) a b := by
  have hj := joinC_names hg ha hb
  have hobj : joinC (wl l) a objN = objN := by
    cases hf : ((look (wl l) a).elim false (·.face) || (look (wl l) objN).elim false (·.face)) with
    | true => exact joinC_face hf
    | false =>
      rw [joinC_line hf]
      exact obj_line hg (common_spec hg ha (obj_names l)).2.1
  cases hf : ((look (wl l) a).elim false (·.face) || (look (wl l) b).elim false (·.face)) with
  | true => rw [joinC_face hf, hobj]
  | false =>
    have hsp := common_spec hg ha hb
    rw [joinC_line hf] at hj ⊢
    generalize common (line (wl l) a) (line (wl l) b) = c at *
    have hfa : (look (wl l) a).elim false (·.face) = false := by
      cases h : (look (wl l) a).elim false (·.face) with
      | false => rfl
      | true => rw [h] at hf; simp at hf
    have hfc := line_face hg hfa ((line_rs hg _ _).1 hsp.1)
    rw [joinC_line (by rw [hfa, hfc]; rfl)]
    refine common_uniq hg ha hj hsp.1 (self_line _ _) (fun x _ h => h)
end Go.Proofs.YtanjggdmgeedlaaGreatDoor
