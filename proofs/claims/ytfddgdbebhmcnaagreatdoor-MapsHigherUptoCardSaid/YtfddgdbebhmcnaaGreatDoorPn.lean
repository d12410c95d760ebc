/-
  Plain law (no program): the join of kinds is associative.
  Plain law: frames are ordered by their join; an instruction and a handler keep the order.
  Plain law: maps that a walk accepts are above the frames that check finds.
-/
import Derived.Test.YtfddgdbebhmcnaaGreatDoorPm
import Derived.Test.YtfddgdbebhmcnaaGreatDoorSh
namespace Go.Proofs.YtfddgdbebhmcnaaGreatDoor
set_option linter.unusedVariables false
set_option linter.unusedSimpArgs false
noncomputable def jc (L : List ClassR) (a b : Nm) : Nm := if a = b then a else joinC L a b
theorem jT0 (L : List ClassR) (a b : Nm) : joinT L 0 (.cls a) 0 (.cls b) = .ty 0 (.cls (jc L a b)) := by
  unfold joinT jc
  by_cases h : a = b
  · subst h; rw [if_pos rfl, if_pos rfl]
  · rw [if_neg (by intro e; exact h (by injection e)), if_pos (by rfl), if_neg h]; rfl
def isF (L : List ClassR) (a : Nm) : Bool := (look L a).elim false (·.face)
theorem isF_obj (l : List ClassR) : isF (wl l) objN = false := face_obj l
theorem common_self (L : List ClassR) (a : Nm) : common (line L a) (line L a) = a := by
  unfold common
  have : line L a = a :: supers L 100 a := rfl
  rw [this]
  simp
theorem jc_line {L : List ClassR} {a b : Nm} (ha : isF L a = false) (hb : isF L b = false) : jc L a b = common (line L a) (line L b) := by
  unfold jc
  by_cases h : a = b
  · subst h; rw [if_pos rfl, common_self]
  · rw [if_neg h]; exact joinC_line (by unfold isF at ha hb; rw [ha, hb]; rfl)
theorem jc_face {L : List ClassR} {a b : Nm} (h : isF L a = true ∨ isF L b = true) (hne : a ≠ b) : jc L a b = objN := by
  unfold jc
  rw [if_neg hne]
  refine joinC_face ?_
  unfold isF at h
  rcases h with h | h <;> rw [h] <;> simp
theorem jc_names {l : List ClassR} (hg : Good l) {a b : Nm} (ha : a ∈ names l) (hb : b ∈ names l) : jc (wl l) a b ∈ names l := by
  unfold jc; split
  · exact ha
  · exact joinC_names hg ha hb
theorem jc_obj {l : List ClassR} (hg : Good l) {a : Nm} (ha : a ∈ names l) : jc (wl l) a objN = objN := by
  by_cases h : a = objN
  · rw [h]; unfold jc; rw [if_pos rfl]
  · cases hf : isF (wl l) a with
    | true => exact jc_face (Or.inl hf) h
    | false =>
      rw [jc_line hf (isF_obj l)]
      exact obj_line hg (common_spec hg ha (obj_names l)).2.1
theorem jc_comm {l : List ClassR} (hg : Good l) {a b : Nm} (ha : a ∈ names l) (hb : b ∈ names l) : jc (wl l) a b = jc (wl l) b a := by
  unfold jc
  by_cases h : a = b
  · rw [if_pos h, if_pos h.symm, h]
  · rw [if_neg h, if_neg (fun e => h e.symm), joinC_comm hg ha hb]
theorem jc_nf {l : List ClassR} (hg : Good l) {a b : Nm} (ha : a ∈ names l) (hb : b ∈ names l) (h : a ≠ b ∨ isF (wl l) a = false) : isF (wl l) (jc (wl l) a b) = false := by
  by_cases he : a = b
  · rcases h with h | h
    · exact absurd he h
    · unfold jc; rw [if_pos he]; exact h
  · cases hfa : isF (wl l) a with
    | true => rw [jc_face (Or.inl hfa) he]; exact isF_obj l
    | false =>
      cases hfb : isF (wl l) b with
      | true => rw [jc_face (Or.inr hfb) he]; exact isF_obj l
      | false =>
        rw [jc_line hfa hfb]
        exact line_face hg hfa ((line_rs hg _ _).1 (common_spec hg ha hb).1)
theorem jc_assoc {l : List ClassR} (hg : Good l) {a b c : Nm} (ha : a ∈ names l) (hb : b ∈ names l) (hc : c ∈ names l) : jc (wl l) (jc (wl l) a b) c = jc (wl l) a (jc (wl l) b c) := by
  have hab := jc_names hg ha hb
  have hbc := jc_names hg hb hc
  cases hfa : isF (wl l) a with
  | true =>
    by_cases e : a = b
    · subst e
      have e1 : jc (wl l) a a = a := by unfold jc; rw [if_pos rfl]
      rw [e1]
      by_cases e2 : a = c
      · subst e2; rw [e1, e1]
      · rw [jc_face (Or.inl hfa) e2, jc_obj hg ha]
    · rw [jc_face (Or.inl hfa) e, jc_comm hg (obj_names l) hc, jc_obj hg hc]
      refine (jc_face (Or.inl hfa) (fun e2 => ?_)).symm
      by_cases e3 : b = c
      · unfold jc at e2; rw [if_pos e3] at e2; exact e e2
      · have := jc_nf hg hb hc (Or.inl e3)
        rw [← e2, hfa] at this; cases this
  | false =>
    cases hfb : isF (wl l) b with
    | true =>
      have e : a ≠ b := fun e => by rw [e, hfb] at hfa; cases hfa
      rw [jc_face (Or.inr hfb) e, jc_comm hg (obj_names l) hc, jc_obj hg hc]
      by_cases e3 : b = c
      · unfold jc; rw [if_pos e3]
        exact (show jc (wl l) a b = objN from jc_face (Or.inr hfb) e).symm
      · rw [jc_face (Or.inl hfb) e3, jc_obj hg ha]
    | false =>
      have hnf := jc_nf hg ha hb (Or.inr hfa)
      cases hfc : isF (wl l) c with
      | true =>
        have e1 : jc (wl l) a b ≠ c := fun e => by rw [e, hfc] at hnf; cases hnf
        have e2 : b ≠ c := fun e => by rw [e, hfc] at hfb; cases hfb
        rw [jc_face (Or.inr hfc) e1, jc_face (Or.inr hfc) e2, jc_obj hg ha]
      | false =>
        have hnf2 := jc_nf hg hb hc (Or.inr hfb)
        rw [jc_line hnf hfc, jc_line hfa hnf2]
        obtain ⟨p1, p2, p3⟩ := common_spec hg ha hbc
        obtain ⟨q1, q2, q3⟩ := common_spec hg ha hb
        obtain ⟨r1, r2, r3⟩ := common_spec hg hb hc
        rw [jc_line hfb hfc] at p1 p2 p3 ⊢
        have h1 := jc_line hfa hfb
        rw [jc_line hfb hfc] at hbc
        generalize common (line (wl l) b) (line (wl l) c) = bc at *
        rw [h1] at hab ⊢
        generalize common (line (wl l) a) (line (wl l) b) = ab at *
        generalize common (line (wl l) a) (line (wl l) bc) = e at *
        have tr : ∀ {x y z : Nm}, y ∈ line (wl l) x → z ∈ line (wl l) y → z ∈ line (wl l) x := fun h k => (line_rs hg _ _).2 (((line_rs hg _ _).1 h).trans ((line_rs hg _ _).1 k))
        refine common_uniq hg hab hc ?_ ?_ ?_
        · exact q3 e p1 (tr r1 p2)
        · exact tr r2 p2
        · intro x hx hxc
          exact p3 x (tr q1 hx) (r3 x (tr q2 hx) hxc)
theorem refs0 {b : Bse} (h : (Kd.ty 0 b).refs = true) : ∃ x, b = .cls x := by
  cases b with
  | int => cases h
  | long => cases h
  | cls x => exact ⟨x, rfl⟩
theorem joinT_obj' {l : List ClassR} (hg : Good l) {b : Bse} (hb : b.Ok (wl l)) (d : Nat) (h : (Kd.ty d b).refs = true) : joinT (wl l) 0 (.cls objN) d b = .ty 0 (.cls objN) := by
  rw [joinT_comm hg (obj_ok l) hb, joinT_obj hg hb d h]
theorem joinT_arr {L : List ClassR} {d d' : Nat} {b b' : Bse} (h : (Kd.ty d b).refs = true) (h' : (Kd.ty d' b').refs = true) : joinT L (d + 1) b (d' + 1) b' = (joinT L d b d' b').up := by
  conv => lhs; unfold joinT
  by_cases e : d = d' ∧ b = b'
  · rw [if_pos e]
    obtain ⟨rfl, rfl⟩ := e
    rw [joinT_self]; rfl
  · rw [if_neg e, if_pos (by rw [h, h']; rfl)]
theorem joinT_mix {L : List ClassR} {d d' : Nat} {b b' : Bse} (h : (Kd.ty d b).refs ≠ (Kd.ty d' b').refs) : joinT L (d + 1) b (d' + 1) b' = .ty 0 (.cls objN) := by
  unfold joinT
  rw [if_neg (by rintro ⟨rfl, rfl⟩; exact h rfl), if_neg (by
    cases h1 : (Kd.ty d b).refs <;> cases h2 : (Kd.ty d' b').refs <;> rw [h1, h2] at h <;> simp at h ⊢)]
theorem joinT_prim {L : List ClassR} {d d' : Nat} {b b' : Bse} (h : (Kd.ty d b).refs = false) (hne : ¬ (d = d' ∧ b = b')) : joinT L (d + 1) b (d' + 1) b' = .ty 0 (.cls objN) := by
  unfold joinT
  rw [if_neg hne, if_neg (by rw [h]; simp)]
theorem joinT_arr0 {l : List ClassR} (hg : Good l) {b b' : Bse} (hb : b.Ok (wl l)) (hb' : b'.Ok (wl l)) {d d' : Nat} : joinT (wl l) (d + 1) b (d' + 1) b' = .ty 0 (.cls objN) ∨ ∃ e c, joinT (wl l) (d + 1) b (d' + 1) b' = .ty (e + 1) c ∧ ((d = d' ∧ b = b' ∧ e = d ∧ c = b) ∨ ((Kd.ty d b).refs = true ∧ (Kd.ty d' b').refs = true ∧ (Kd.ty e c).refs = true)) := by
  cases h1 : (Kd.ty d b).refs with
  | true =>
    cases h2 : (Kd.ty d' b').refs with
    | true =>
      obtain ⟨e, c, h3, _, _, h4⟩ := joinT_ref hg hb hb' d d' h1 h2
      exact Or.inr ⟨e, c, by rw [joinT_arr h1 h2, h3]; rfl, Or.inr ⟨rfl, rfl, h4⟩⟩
    | false => exact Or.inl (joinT_mix (by rw [h1, h2]; simp))
  | false =>
    by_cases e : d = d' ∧ b = b'
    · obtain ⟨rfl, rfl⟩ := e
      exact Or.inr ⟨d, b, joinT_self _ _ _, Or.inl ⟨rfl, rfl, rfl, rfl⟩⟩
    · exact Or.inl (joinT_prim h1 e)
theorem joinR_assoc {l : List ClassR} (hg : Good l) {b1 b2 b3 : Bse} (k1 : b1.Ok (wl l)) (k2 : b2.Ok (wl l)) (k3 : b3.Ok (wl l)) : ∀ (d1 d2 d3 : Nat), (Kd.ty d1 b1).refs = true → (Kd.ty d2 b2).refs = true → (Kd.ty d3 b3).refs = true →
    joinK (wl l) (joinT (wl l) d1 b1 d2 b2) (.ty d3 b3) = joinK (wl l) (.ty d1 b1) (joinT (wl l) d2 b2 d3 b3)
  | 0, 0, 0, r1, r2, r3 => by
    obtain ⟨x, rfl⟩ := refs0 r1
    obtain ⟨y, rfl⟩ := refs0 r2
    obtain ⟨z, rfl⟩ := refs0 r3
    rw [jT0, jT0]
    simp only [joinK]
    rw [jT0, jT0, jc_assoc hg (look_some.1 k1.2) (look_some.1 k2.2) (look_some.1 k3.2)]
  | 0, 0, d3 + 1, r1, r2, r3 => by
    obtain ⟨x, rfl⟩ := refs0 r1
    obtain ⟨y, rfl⟩ := refs0 r2
    rw [jT0]
    simp only [joinK]
    have e1 : joinT (wl l) 0 (.cls y) (d3 + 1) b3 = .ty 0 (.cls objN) := by unfold joinT; rfl
    have e2 : joinT (wl l) 0 (.cls (jc (wl l) x y)) (d3 + 1) b3 = .ty 0 (.cls objN) := by unfold joinT; rfl
    rw [e1, e2]
    simp only [joinK]
    rw [joinT_obj hg k1 0 r1]
  | 0, d2 + 1, d3, r1, r2, r3 => by
    obtain ⟨x, rfl⟩ := refs0 r1
    have e1 : ∀ n c, joinT (wl l) 0 (.cls x) (n + 1) c = .ty 0 (.cls objN) := fun n c => by unfold joinT; rfl
    rw [e1]
    simp only [joinK]
    rw [joinT_obj' hg k3 d3 r3]
    cases d3 with
    | zero =>
      have e2 : joinT (wl l) (d2 + 1) b2 0 b3 = .ty 0 (.cls objN) := by unfold joinT; exact if_pos r3
      rw [e2]
      simp only [joinK]
      rw [joinT_obj hg k1 0 r1]
    | succ d3 =>
      rcases joinT_arr0 hg k2 k3 (d := d2) (d' := d3) with h | ⟨e, c, h, _⟩
      · rw [h]; simp only [joinK]; rw [joinT_obj hg k1 0 r1]
      · rw [h]; simp only [joinK]; rw [e1]
  | d1 + 1, 0, d3, r1, r2, r3 => by
    obtain ⟨y, rfl⟩ := refs0 r2
    have e1 : ∀ z, joinT (wl l) (d1 + 1) b1 0 (.cls z) = .ty 0 (.cls objN) := fun z => by unfold joinT; rfl
    rw [e1]
    simp only [joinK]
    rw [joinT_obj' hg k3 d3 r3]
    cases d3 with
    | zero =>
      obtain ⟨z, rfl⟩ := refs0 r3
      rw [jT0]; simp only [joinK]; rw [e1]
    | succ d3 =>
      have e2 : joinT (wl l) 0 (.cls y) (d3 + 1) b3 = .ty 0 (.cls objN) := by unfold joinT; rfl
      rw [e2]; simp only [joinK]; rw [e1]
  | d1 + 1, d2 + 1, 0, r1, r2, r3 => by
    obtain ⟨z, rfl⟩ := refs0 r3
    have e1 : ∀ d b z, joinT (wl l) (d + 1) b 0 (.cls z) = .ty 0 (.cls objN) := fun d b z => by unfold joinT; rfl
    rw [e1]
    simp only [joinK]
    rw [e1]
    rcases joinT_arr0 hg k1 k2 (d := d1) (d' := d2) with h | ⟨e, c, h, _⟩
    · rw [h]; simp only [joinK]; rw [joinT_obj' hg k3 0 r3]
    · rw [h]; simp only [joinK]; rw [e1]
  | d1 + 1, d2 + 1, d3 + 1, r1, r2, r3 => by
    have ih := joinR_assoc hg k1 k2 k3 d1 d2 d3
    have oo : ∀ {d : Nat} {b : Bse}, b.Ok (wl l) → joinT (wl l) 0 (.cls objN) (d + 1) b = .ty 0 (.cls objN) := fun hb => joinT_obj' hg hb _ rfl
    have oo' : ∀ {d : Nat} {b : Bse}, joinT (wl l) (d + 1) b 0 (.cls objN) = .ty 0 (.cls objN) := by intro d b; unfold joinT; rfl
    cases h1 : (Kd.ty d1 b1).refs with
    | true =>
      cases h2 : (Kd.ty d2 b2).refs with
      | true =>
        obtain ⟨e, c, e1, _, hc, hr⟩ := joinT_ref hg k1 k2 d1 d2 h1 h2
        cases h3 : (Kd.ty d3 b3).refs with
        | true =>
          obtain ⟨e', c', e2, _, hc', hr'⟩ := joinT_ref hg k2 k3 d2 d3 h2 h3
          have := ih h1 h2 h3
          rw [e1, e2] at this
          simp only [joinK] at this
          rw [joinT_arr h1 h2, joinT_arr h2 h3, e1, e2]
          simp only [Kd.up, joinK]
          rw [joinT_arr hr h3, joinT_arr h1 hr', this]
        | false =>
          rw [joinT_arr h1 h2, e1, joinT_mix (b := b2) (b' := b3) (d := d2) (d' := d3) (by rw [h2, h3]; simp)]
          simp only [Kd.up, joinK]
          rw [joinT_mix (by rw [hr, h3]; simp), oo']
      | false =>
        rw [joinT_mix (b := b1) (b' := b2) (d := d1) (d' := d2) (by rw [h1, h2]; simp)]
        simp only [joinK]
        rw [oo k3]
        rcases joinT_arr0 hg k2 k3 (d := d2) (d' := d3) with h | ⟨e, c, h, ⟨rfl, rfl, rfl, rfl⟩ | ⟨h4, _⟩⟩
        · rw [h]; simp only [joinK]; rw [oo']
        · rw [h]; simp only [joinK]; rw [joinT_mix (by rw [h1, h2]; simp)]
        · rw [h2] at h4; cases h4
    | false =>
      by_cases e12 : d1 = d2 ∧ b1 = b2
      · obtain ⟨rfl, rfl⟩ := e12
        rw [joinT_self]
        simp only [joinK]
        by_cases e13 : d1 = d3 ∧ b1 = b3
        · obtain ⟨rfl, rfl⟩ := e13
          rw [joinT_self]; simp only [joinK]; rw [joinT_self]
        · rw [joinT_prim h1 e13]; simp only [joinK]; rw [oo']
      · rw [joinT_prim h1 e12]
        simp only [joinK]
        rw [oo k3]
        rcases joinT_arr0 hg k2 k3 (d := d2) (d' := d3) with h | ⟨e, c, h, ⟨rfl, rfl, rfl, rfl⟩ | ⟨_, _, h4⟩⟩
        · rw [h]; simp only [joinK]; rw [oo']
        · rw [h]; simp only [joinK]; rw [joinT_prim h1 e12]
        · rw [h]; simp only [joinK]; rw [joinT_mix (by rw [h1, h4]; simp)]
theorem joinK_assoc {l : List ClassR} (hg : Good l) {a b c : Kd} (ha : a.Ok (wl l)) (hb : b.Ok (wl l)) (hc : c.Ok (wl l)) : joinK (wl l) (joinK (wl l) a b) c = joinK (wl l) a (joinK (wl l) b c) := by
  have top1 : ∀ k, joinK (wl l) .top k = .top := fun k => by cases k <;> rfl
  have top2 : ∀ k, joinK (wl l) k .top = .top := fun k => by cases k <;> rfl
  have nulK : ∀ {k : Kd}, k.refs = true → joinK (wl l) .nul k = k := fun {k} h => by
    cases k with
    | nul => rfl
    | top => cases h
    | ty d b => simp only [joinK]; rw [if_pos h]
  have nulK' : ∀ {k : Kd}, k.refs = true → joinK (wl l) k .nul = k := fun {k} h => by
    cases k with
    | nul => rfl
    | top => cases h
    | ty d b => simp only [joinK]; rw [if_pos h]
  have nulP : ∀ {d : Nat} {b : Bse}, (Kd.ty d b).refs = false → joinK (wl l) .nul (.ty d b) = .top := fun h => by simp only [joinK]; rw [if_neg (by rw [h]; simp)]
  have nulP' : ∀ {d : Nat} {b : Bse}, (Kd.ty d b).refs = false → joinK (wl l) (.ty d b) .nul = .top := fun h => by simp only [joinK]; rw [if_neg (by rw [h]; simp)]
  have prim : ∀ {d d' : Nat} {b b' : Bse}, ((Kd.ty d b).refs && (Kd.ty d' b').refs) = false → joinK (wl l) (.ty d b) (.ty d' b') = .top ∨ (d = d' ∧ b = b' ∧ joinK (wl l) (.ty d b) (.ty d' b') = .ty d b) := fun h => joinT_top _ _ h
  cases a with
  | top => rw [top1, top1, top1]
  | nul =>
    cases b with
    | top => rw [top2, top1, top2]
    | nul =>
      cases c with
      | top => rfl
      | nul => rfl
      | ty d c =>
        cases h : (Kd.ty d c).refs with
        | true => rw [nulK h, show joinK (wl l) .nul .nul = .nul from rfl, nulK h]
        | false => rw [nulP h, show joinK (wl l) .nul .nul = .nul from rfl, nulP h, top2]
    | ty d b =>
      cases h : (Kd.ty d b).refs with
      | true =>
        rw [nulK h]
        cases c with
        | top => rw [top2, top2]
        | nul => rw [nulK' h, nulK h]
        | ty d' c =>
          cases h' : (Kd.ty d' c).refs with
          | true =>
            obtain ⟨e, x, e1, _, _, hr⟩ := joinT_ref hg hb.2 hc.2 d d' h h'
            simp only [joinK]
            rw [e1]
            simp only [joinK]
            rw [if_pos hr]
          | false =>
            rcases prim (d := d) (b := b) (d' := d') (b' := c) (by rw [h']; simp) with h2 | ⟨rfl, rfl, _⟩
            · rw [h2, top2]
            · rw [h] at h'; cases h'
      | false =>
        rw [nulP h, top1]
        cases c with
        | top => rw [top2, top2]
        | nul => rw [nulP' h, top2]
        | ty d' c =>
          rcases prim (d := d) (b := b) (d' := d') (b' := c) (by rw [h]; simp) with h2 | ⟨_, _, h2⟩
          · rw [h2, top2]
          · rw [h2, nulP h]
  | ty da a =>
    cases b with
    | top => rw [top2, top1, top2]
    | nul =>
      cases h : (Kd.ty da a).refs with
      | true =>
        rw [nulK' h]
        cases c with
        | top => rw [top2, top2, top2]
        | nul => rw [nulK' h, show joinK (wl l) .nul .nul = .nul from rfl, nulK' h]
        | ty d' c =>
          cases h' : (Kd.ty d' c).refs with
          | true => rw [nulK h']
          | false =>
            rw [nulP h', top2]
            rcases prim (d := da) (b := a) (d' := d') (b' := c) (by rw [h']; simp) with h2 | ⟨rfl, rfl, _⟩
            · exact h2
            · rw [h] at h'; cases h'
      | false =>
        rw [nulP' h, top1]
        cases c with
        | top => rw [top2, top2]
        | nul => rw [show joinK (wl l) .nul .nul = .nul from rfl, nulP' h]
        | ty d' c =>
          cases h' : (Kd.ty d' c).refs with
          | true =>
            rw [nulK h']
            rcases prim (d := da) (b := a) (d' := d') (b' := c) (by rw [h]; simp) with h2 | ⟨rfl, rfl, _⟩
            · exact h2.symm
            · rw [h] at h'; cases h'
          | false => rw [nulP h', top2]
    | ty db b =>
      cases h1 : (Kd.ty da a).refs with
      | true =>
        cases h2 : (Kd.ty db b).refs with
        | true =>
          cases c with
          | top => rw [top2, top2, top2]
          | nul =>
            obtain ⟨e, x, e1, _, _, hr⟩ := joinT_ref hg ha.2 hb.2 da db h1 h2
            rw [nulK' h2]
            simp only [joinK]
            rw [e1]
            simp only [joinK]
            rw [if_pos hr]
          | ty dc c =>
            cases h3 : (Kd.ty dc c).refs with
            | true => exact joinR_assoc hg ha.2 hb.2 hc.2 da db dc h1 h2 h3
            | false =>
              obtain ⟨e, x, e1, _, _, hr⟩ := joinT_ref hg ha.2 hb.2 da db h1 h2
              have e1' : joinK (wl l) (.ty da a) (.ty db b) = .ty e x := e1
              rw [e1']
              rcases prim (d := e) (b := x) (d' := dc) (b' := c) (by rw [h3]; simp) with h4 | ⟨rfl, rfl, _⟩
              · rw [h4]
                rcases prim (d := db) (b := b) (d' := dc) (b' := c) (by rw [h3]; simp) with h5 | ⟨rfl, rfl, _⟩
                · rw [h5, top2]
                · rw [h2] at h3; cases h3
              · rw [hr] at h3; cases h3
        | false =>
          rcases prim (d := da) (b := a) (d' := db) (b' := b) (by rw [h2]; simp) with h4 | ⟨rfl, rfl, _⟩
          · rw [h4, top1]
            cases c with
            | top => rw [top2, top2]
            | nul => rw [nulP' h2, top2]
            | ty dc c =>
              rcases prim (d := db) (b := b) (d' := dc) (b' := c) (by rw [h2]; simp) with h5 | ⟨_, _, h5⟩
              · rw [h5, top2]
              · rw [h5, h4]
          · rw [h1] at h2; cases h2
      | false =>
        rcases prim (d := da) (b := a) (d' := db) (b' := b) (by rw [h1]; simp) with h4 | ⟨rfl, rfl, h4⟩
        · rw [h4, top1]
          cases c with
          | top => rw [top2, top2]
          | nul =>
            cases h2 : (Kd.ty db b).refs with
            | true => rw [nulK' h2, h4]
            | false => rw [nulP' h2, top2]
          | ty dc c =>
            cases h23 : ((Kd.ty db b).refs && (Kd.ty dc c).refs) with
            | true =>
              rw [Bool.and_eq_true] at h23
              obtain ⟨e, x, e1, _, _, hr⟩ := joinT_ref hg hb.2 hc.2 db dc h23.1 h23.2
              have e1' : joinK (wl l) (.ty db b) (.ty dc c) = .ty e x := e1
              rw [e1']
              rcases prim (d := da) (b := a) (d' := e) (b' := x) (by rw [h1]; simp) with h5 | ⟨rfl, rfl, _⟩
              · exact h5.symm
              · rw [h1] at hr; cases hr
            | false =>
              rcases prim (d := db) (b := b) (d' := dc) (b' := c) h23 with h5 | ⟨_, _, h5⟩
              · rw [h5, top2]
              · rw [h5, h4]
        · rw [h4]
          cases c with
          | top => rw [top2, top2]
          | nul => rw [nulP' h1, top2]
          | ty dc c =>
            rcases prim (d := da) (b := a) (d' := dc) (b' := c) (by rw [h1]; simp) with h5 | ⟨rfl, rfl, h5⟩
            · rw [h5, top2]
            · rw [h5, h5]
end Go.Proofs.YtfddgdbebhmcnaaGreatDoor
namespace Go.Proofs.YtfddgdbebhmcnaaGreatDoor
set_option linter.unusedVariables false
set_option linter.unusedSimpArgs false
theorem joinN_assoc {l : List ClassR} (hg : Good l) {s t u : Nm} (hs : kindErr (wl l) s = 0) (ht : kindErr (wl l) t = 0) (hu : kindErr (wl l) u = 0) : joinN (wl l) (joinN (wl l) s t) u = joinN (wl l) s (joinN (wl l) t u) := by
  show (joinK (wl l) (kd (wl l) (joinK (wl l) (kd (wl l) s) (kd (wl l) t)).text) (kd (wl l) u)).text = (joinK (wl l) (kd (wl l) s) (kd (wl l) (joinK (wl l) (kd (wl l) t) (kd (wl l) u)).text)).text
  rw [kd_text (joinK_ok hg (kd_spec hs).1 (kd_spec ht).1), kd_text (joinK_ok hg (kd_spec ht).1 (kd_spec hu).1), joinK_assoc hg (kd_spec hs).1 (kd_spec ht).1 (kd_spec hu).1]
theorem joinN_self {l : List ClassR} {s : Nm} (hs : kindErr (wl l) s = 0) : joinN (wl l) s s = s := by
  have hs' := kd_spec hs
  unfold joinN
  have : joinK (wl l) (kd (wl l) s) (kd (wl l) s) = kd (wl l) s := by
    cases kd (wl l) s with
    | nul => rfl
    | top => rfl
    | ty d b => exact joinT_self _ d b
  rw [this]; exact hs'.2.symm
structure leN (L : List ClassR) (s t : Nm) : Prop where
  l : kindErr L s = 0
  r : kindErr L t = 0
  j : joinN L s t = t
theorem leN.refl {l : List ClassR} {s : Nm} (h : kindErr (wl l) s = 0) : leN (wl l) s s := ⟨h, h, joinN_self h⟩
theorem leN.trans {l : List ClassR} (hg : Good l) {s t u : Nm} (h : leN (wl l) s t) (k : leN (wl l) t u) : leN (wl l) s u := ⟨h.l, k.r, by rw [← k.j, ← joinN_assoc hg h.l h.r k.r, h.j]⟩
theorem leN.lub {l : List ClassR} (hg : Good l) {s t u : Nm} (h : leN (wl l) s u) (k : leN (wl l) t u) : leN (wl l) (joinN (wl l) s t) u := ⟨joinN_ok hg h.l k.l, h.r, by rw [joinN_assoc hg h.l k.l k.r, k.j, h.j]⟩
inductive LeL (L : List ClassR) : List Nm → List Nm → Prop
  | nil : LeL L [] []
  | cons {x y : Nm} {A B : List Nm} : leN L x y → LeL L A B → LeL L (x :: A) (y :: B)
theorem LeL.refl {l : List ClassR} : ∀ {A : List Nm}, (∀ t ∈ A, kindErr (wl l) t = 0) → LeL (wl l) A A
  | [], _ => .nil
  | x :: A, h => .cons (.refl (h x (by simp))) (LeL.refl (fun t ht => h t (by simp [ht])))
theorem LeL.trans {l : List ClassR} (hg : Good l) : ∀ {A B C : List Nm}, LeL (wl l) A B → LeL (wl l) B C → LeL (wl l) A C
  | _, _, _, .nil, .nil => .nil
  | _, _, _, .cons h h', .cons k k' => .cons (h.trans hg k) (LeL.trans hg h' k')
theorem LeL.len {L : List ClassR} : ∀ {A B : List Nm}, LeL L A B → A.length = B.length
  | _, _, .nil => rfl
  | _, _, .cons _ h => by simp [h.len]
theorem LeL.lub {l : List ClassR} (hg : Good l) : ∀ {A B C : List Nm}, LeL (wl l) A C → LeL (wl l) B C → LeL (wl l) (List.zipWith (joinN (wl l)) A B) C
  | _, _, _, .nil, .nil => .nil
  | _, _, _, .cons h h', .cons k k' => .cons (h.lub hg k) (LeL.lub hg h' k')
theorem LeL.of_zip {L : List ClassR} : ∀ {A B : List Nm}, A.length = B.length → (∀ t ∈ A, kindErr L t = 0) → (∀ t ∈ B, kindErr L t = 0) → List.zipWith (joinN L) A B = B → LeL L A B
  | [], [], _, _, _, _ => .nil
  | [], _ :: _, h, _, _, _ => by simp at h
  | _ :: _, [], h, _, _, _ => by simp at h
  | x :: A, y :: B, h, ha, hb, hz => by
    simp only [List.zipWith_cons_cons, List.cons.injEq] at hz
    exact .cons ⟨ha x (by simp), hb y (by simp), hz.1⟩ (LeL.of_zip (by simpa using h) (fun t ht => ha t (by simp [ht])) (fun t ht => hb t (by simp [ht])) hz.2)
theorem LeL.zip {L : List ClassR} : ∀ {A B : List Nm}, LeL L A B → List.zipWith (joinN L) A B = B
  | _, _, .nil => rfl
  | _, _, .cons h h' => by simp only [List.zipWith_cons_cons]; rw [h.j, h'.zip]
theorem LeL.app {L : List ClassR} : ∀ {A B A' B' : List Nm}, LeL L A B → LeL L A' B' → LeL L (A ++ A') (B ++ B')
  | _, _, _, _, .nil, k => k
  | _, _, _, _, .cons h h', k => .cons h (h'.app k)
theorem LeL.snoc {L : List ClassR} {k : Nm} : ∀ {A C : List Nm}, LeL L (A ++ [k]) C → ∃ B k', C = B ++ [k'] ∧ LeL L A B ∧ leN L k k'
  | [], C, h => by
    cases h with
    | cons h1 h2 =>
      cases h2
      exact ⟨[], _, rfl, .nil, h1⟩
  | x :: A, C, h => by
    cases h with
    | cons h1 h2 =>
      obtain ⟨B, k', e, h3, h4⟩ := LeL.snoc h2
      exact ⟨_ :: B, k', by rw [e]; rfl, .cons h1 h3, h4⟩
theorem LeL.at_ {L : List ClassR} : ∀ {A B : List Nm}, LeL L A B → ∀ {i : Nat} {x y : Nm}, A[i]? = some x → B[i]? = some y → leN L x y
  | _, _, .nil, i, x, y, h, _ => by simp at h
  | _, _, .cons h h', 0, x, y, hx, hy => by
    simp only [List.getElem?_cons_zero, Option.some.injEq] at hx hy
    subst hx; subst hy; exact h
  | _, _, .cons h h', i + 1, x, y, hx, hy => h'.at_ (by simpa using hx) (by simpa using hy)
theorem LeL.set {L : List ClassR} {x y : Nm} (hxy : leN L x y) : ∀ {A B : List Nm} (i : Nat), LeL L A B → LeL L (A.set i x) (B.set i y)
  | _, _, _, .nil => .nil
  | _, _, 0, .cons h h' => .cons hxy h'
  | _, _, i + 1, .cons h h' => .cons h (LeL.set hxy i h')
structure leF (L : List ClassR) (f g : FrR) : Prop where
  loc : LeL L f.loc g.loc
  st : LeL L f.st g.st
theorem leF.refl {l : List ClassR} {f : FrR} (h : KOk (wl l) f) : leF (wl l) f f := ⟨.refl h.mem1, .refl h.mem2⟩
theorem leF.trans {l : List ClassR} (hg : Good l) {f g h : FrR} (a : leF (wl l) f g) (b : leF (wl l) g h) : leF (wl l) f h := ⟨a.loc.trans hg b.loc, a.st.trans hg b.st⟩
theorem leF.sh {L : List ClassR} {f g : FrR} (h : leF L f g) : sameSh f g := ⟨h.loc.len, h.st.len⟩
theorem leF.lub {l : List ClassR} (hg : Good l) {f g h : FrR} (a : leF (wl l) f h) (b : leF (wl l) g h) : leF (wl l) (joinF (wl l) f g) h := ⟨a.loc.lub hg b.loc, a.st.lub hg b.st⟩
theorem leF.join {L : List ClassR} {f g : FrR} (h : leF L f g) : joinF L f g = g := by
  unfold joinF
  rw [h.loc.zip, h.st.zip]
theorem leF.of {L : List ClassR} {f g : FrR} (hf : KOk L f) (hg : KOk L g) (hs : sameSh f g) (hj : joinF L f g = g) : leF L f g := by
  obtain ⟨a, b⟩ := g
  unfold joinF at hj
  simp only [FrR.mk.injEq] at hj
  exact ⟨.of_zip hs.1 hf.mem1 hg.mem1 hj.1, .of_zip hs.2 hf.mem2 hg.mem2 hj.2⟩
theorem pop_mono {L : List ClassR} {f g f' : FrR} {k : Nm} (h : leF L f g) (hp : popF f = some (k, f')) : ∃ k' g', popF g = some (k', g') ∧ leN L k k' ∧ leF L f' g' := by
  rcases pop_cases f with h0 | ⟨A, k0, h0⟩
  · rw [popF_nil h0] at hp; cases hp
  · rw [popF_snoc h0] at hp
    simp only [Option.some.injEq, Prod.mk.injEq] at hp
    obtain ⟨rfl, rfl⟩ := hp
    have h2 := h.st
    rw [h0] at h2
    obtain ⟨B, k', e, h3, h4⟩ := h2.snoc
    exact ⟨k', ⟨g.loc, B⟩, popF_snoc e, h4, ⟨h.loc, h3⟩⟩
theorem pop_mono2 {L : List ClassR} {f g f' g' : FrR} {k k' : Nm} (h : leF L f g) (hp : popF f = some (k, f')) (hq : popF g = some (k', g')) : leN L k k' ∧ leF L f' g' := by
  obtain ⟨k2, g2, h1, h2, h3⟩ := pop_mono h hp
  rw [hq] at h1
  simp only [Option.some.injEq, Prod.mk.injEq] at h1
  obtain ⟨rfl, rfl⟩ := h1
  exact ⟨h2, h3⟩
theorem put_mono {L : List ClassR} {f g f' g' : FrR} {k k' : Nm} (h : leF L f g) (hk : leN L k k') (hp : putF f k = some f') (hq : putF g k' = some g') : leF L f' g' := by
  unfold putF at hp hq
  split at hp
  · split at hq
    · simp only [Option.some.injEq] at hp hq
      subst hp; subst hq
      exact ⟨h.loc, h.st.app (.cons hk .nil)⟩
    · cases hq
  · cases hp
theorem putO_mono {L : List ClassR} {r r' : Option FrR} {f' g' : FrR} {k k' : Nm} (h : ∀ f g, r = some f → r' = some g → leF L f g) (hk : leN L k k') (hp : putO r k = some f') (hq : putO r' k' = some g') : leF L f' g' := by
  unfold putO at hp hq
  obtain ⟨f, h1, hp⟩ := oel hp
  obtain ⟨g, h2, hq⟩ := oel hq
  exact put_mono (h f g h1 h2) hk hp hq
theorem take_mono {L : List ClassR} : ∀ {ts : List Nm} {f g f' g' : FrR}, leF L f g → takeF L ts f = some f' → takeF L ts g = some g' → leF L f' g'
  | [], f, g, f', g', h, hp, hq => by
    simp only [takeF, Option.some.injEq] at hp hq
    subst hp; subst hq; exact h
  | t :: r, f, g, f', g', h, hp, hq => by
    unfold takeF at hp hq
    split at hp
    · cases hp
    rename_i h0
    rw [if_neg h0] at hq
    obtain ⟨⟨k, f2⟩, h1, hp⟩ := oel hp
    obtain ⟨⟨k', g2⟩, h2, hq⟩ := oel hq
    split at hp
    · split at hq
      · exact take_mono (pop_mono2 h h1 h2).2 hp hq
      · cases hq
    · cases hp
theorem ref_pop {f f' : FrR} {k : Nm} (h : refF f = some (k, f')) : popF f = some (k, f') := by
  unfold refF at h
  obtain ⟨⟨k2, f2⟩, h1, h⟩ := oel h
  split at h
  · simp only [Option.some.injEq] at h
    rw [h1, h]
  · cases h
theorem ref_mono {L : List ClassR} {f g f' g' : FrR} {k k' : Nm} (h : leF L f g) (hp : refF f = some (k, f')) (hq : refF g = some (k', g')) : leF L f' g' := (pop_mono2 h (ref_pop hp) (ref_pop hq)).2
theorem arr_mono {L : List ClassR} {t : Nm} {f g f' g' : FrR} (h : leF L f g) (hp : arrF L t f = some f') (hq : arrF L t g = some g') : leF L f' g' := by
  unfold arrF at hp hq
  split at hp
  · cases hp
  rename_i h0
  rw [if_neg h0] at hq
  obtain ⟨f2, h1, hp⟩ := oel hp
  obtain ⟨g2, h2, hq⟩ := oel hq
  obtain ⟨⟨k, f3⟩, h3, hp⟩ := oel hp
  obtain ⟨⟨k', g3⟩, h4, hq⟩ := oel hq
  split at hp
  · split at hq
    · simp only [Option.some.injEq] at hp hq
      subst hp; subst hq
      exact ref_mono (take_mono h h1 h2) h3 h4
    · cases hq
  · cases hp
theorem call_mono {l : List ClassR} {fr : Nm} {x : InsR} {st : Bool} {f g f' g' : FrR} (h : leF (wl l) f g) (hp : callF (wl l) fr x st f = some f') (hq : callF (wl l) fr x st g = some g') : leF (wl l) f' g' := by
  unfold callF at hp hq
  split at hp
  · cases hp
  rename_i h0
  rw [if_neg h0] at hq
  split at hp
  · rename_i h9
    rw [dif_pos h9] at hq
    unfold callG at hp hq
    obtain ⟨f1, h1, hp⟩ := oel hp
    obtain ⟨g1, h2, hq⟩ := oel hq
    obtain ⟨f2, h3, hp⟩ := oel hp
    obtain ⟨g2, h4, hq⟩ := oel hq
    have k1 := take_mono h h1 h2
    have k2 : leF (wl l) f2 g2 := by
      split at h3
      · rename_i hst
        rw [if_pos hst] at h4
        simp only [Option.some.injEq] at h3 h4
        subst h3; subst h4; exact k1
      · rename_i hst
        rw [if_neg hst] at h4
        exact take_mono k1 h3 h4
    split at hp
    · rename_i hv
      rw [if_pos hv] at hq
      simp only [Option.some.injEq] at hp hq
      subst hp; subst hq; exact k2
    · rename_i hv
      rw [if_neg hv] at hq
      split at hp
      · cases hp
      · rename_i hk
        rw [if_neg hk] at hq
        exact put_mono k2 (.refl (by simpa using hk)) hp hq
  · cases hp
theorem math_mono {L : List ClassR} {a : Int} {ty : Nm} {f g f' g' : FrR} (h : leF L f g) (hp : mathF L a ty f = some f') (hq : mathF L a ty g = some g') : leF L f' g' := by
  unfold mathF at hp hq
  split at hp
  · rename_i h0
    rw [if_pos h0] at hq
    simp only [Option.some.injEq] at hp hq
    subst hp; subst hq; exact h
  · rename_i h0
    rw [if_neg h0] at hq
    split at hp
    · rename_i h1
      rw [if_pos h1] at hq
      exact take_mono h hp hq
    · rename_i h1
      rw [if_neg h1] at hq
      exact take_mono h hp hq
theorem plain_mono {l : List ClassR} {gv : Nm} {x : InsR} {f g f' g' : FrR} (hi : insErr x = 0) (h : leF (wl l) f g) (hp : plainF (wl l) gv x f = some f') (hq : plainF (wl l) gv x g = some g') : leF (wl l) f' g' := by
  obtain ⟨_, ht, _⟩ := ins_parts hi
  obtain ⟨op, ia, ib, ty, cl, nm⟩ := x
  unfold plainF at hp hq
  dsimp only at hp hq
  by_cases e2 : op = 2
  · subst e2
    rw [if_pos rfl] at hp hq
    exact put_mono h (.refl (kd_num2 _ (by simpa [typedB] using ht)).1) hp hq
  rw [if_neg e2] at hp hq
  by_cases e3 : op = 3
  · clear ht
    rw [if_pos e3] at hp hq
    exact put_mono h (.refl (kd_nul _)) hp hq
  rw [if_neg e3] at hp hq
  by_cases e4 : op = 4
  · clear ht
    rw [if_pos e4] at hp hq
    obtain ⟨k, h1, hp⟩ := oel hp
    obtain ⟨k', h2, hq⟩ := oel hq
    split at hp
    · cases hp
    · split at hq
      · cases hq
      · exact put_mono h (h.loc.at_ h1 h2) hp hq
  rw [if_neg e4] at hp hq
  by_cases e5 : op = 5
  · clear ht
    rw [if_pos e5] at hp hq
    obtain ⟨⟨k, f2⟩, h1, hp⟩ := oel hp
    obtain ⟨⟨k', g2⟩, h2, hq⟩ := oel hq
    obtain ⟨k1, k2⟩ := pop_mono2 h h1 h2
    split at hp
    · split at hq
      · simp only [Option.some.injEq] at hp hq
        subst hp; subst hq
        exact ⟨k2.loc.set k1 _, k2.st⟩
      · cases hq
    · cases hp
  rw [if_neg e5] at hp hq
  by_cases e6 : op = 6
  · clear ht
    rw [if_pos e6] at hp hq
    cases h1 : popF f with
    | none => rw [h1] at hp; cases hp
    | some p =>
      cases h2 : popF g with
      | none => rw [h2] at hq; cases hq
      | some q =>
        rw [h1] at hp
        rw [h2] at hq
        simp only [Option.map_some, Option.some.injEq] at hp hq
        subst hp; subst hq
        exact (pop_mono2 h (k := p.1) (k' := q.1) h1 h2).2
  rw [if_neg e6] at hp hq
  by_cases e7 : op = 7
  · clear ht
    rw [if_pos e7] at hp hq
    obtain ⟨⟨k, f2⟩, h1, hp⟩ := oel hp
    obtain ⟨⟨k', g2⟩, h2, hq⟩ := oel hq
    obtain ⟨k1, k2⟩ := pop_mono2 h h1 h2
    exact putO_mono (fun f5 g5 h5 h6 => put_mono k2 k1 h5 h6) k1 hp hq
  rw [if_neg e7] at hp hq
  by_cases e8 : op = 8
  · clear ht
    rw [if_pos e8] at hp hq
    obtain ⟨⟨k, f2⟩, h1, hp⟩ := oel hp
    obtain ⟨⟨k', g2⟩, h2, hq⟩ := oel hq
    obtain ⟨⟨j, f3⟩, h3, hp⟩ := oel hp
    obtain ⟨⟨j', g3⟩, h4, hq⟩ := oel hq
    obtain ⟨k1, k2⟩ := pop_mono2 h h1 h2
    obtain ⟨k3, k4⟩ := pop_mono2 k2 h3 h4
    exact putO_mono (fun f5 g5 h5 h6 => put_mono k4 k1 h5 h6) k3 hp hq
  rw [if_neg e8] at hp hq
  by_cases e9 : op = 9
  · clear ht
    rw [if_pos e9] at hp hq
    obtain ⟨f2, h1, hp⟩ := oel hp
    obtain ⟨g2, h2, hq⟩ := oel hq
    have k2 := math_mono h h1 h2
    have hp' := hp
    unfold putO at hp'
    obtain ⟨f3, h3, _⟩ := oel hp'
    exact putO_mono (fun f5 g5 h5 h6 => take_mono k2 h5 h6) (.refl (take_kd h3)) hp hq
  rw [if_neg e9] at hp hq
  by_cases e10 : op = 10
  · subst e10
    rw [if_pos rfl] at hp hq
    exact putO_mono (fun f5 g5 h5 h6 => take_mono h h5 h6) (.refl (kd_num2 _ (by simpa [typedB] using ht)).1) hp hq
  rw [if_neg e10] at hp hq
  by_cases e11 : op = 11
  · clear ht
    rw [if_pos e11] at hp hq
    exact putO_mono (fun f5 g5 h5 h6 => take_mono h h5 h6) (.refl (kd_int _)) hp hq
  rw [if_neg e11] at hp hq
  by_cases e12 : op = 12
  · clear ht
    rw [if_pos e12] at hp hq
    exact take_mono h hp hq
  rw [if_neg e12] at hp hq
  by_cases e13 : op = 13
  · clear ht
    rw [if_pos e13] at hp hq
    cases h1 : refF f with
    | none => rw [h1] at hp; cases hp
    | some p =>
      cases h2 : refF g with
      | none => rw [h2] at hq; cases hq
      | some q =>
        rw [h1] at hp
        rw [h2] at hq
        simp only [Option.map_some, Option.some.injEq] at hp hq
        subst hp; subst hq
        exact ref_mono h (k := p.1) (k' := q.1) h1 h2
  rw [if_neg e13] at hp hq
  by_cases e26 : op = 26
  · clear ht
    rw [if_pos e26] at hp hq
    split at hp
    · rename_i hv
      rw [if_pos hv] at hq
      simp only [Option.some.injEq] at hp hq
      subst hp; subst hq; exact h
    · cases hp
  rw [if_neg e26] at hp hq
  by_cases e27 : op = 27
  · clear ht
    rw [if_pos e27] at hp hq
    split at hp
    · cases hp
    · rename_i hv
      rw [if_neg hv] at hq
      exact take_mono h hp hq
  rw [if_neg e27] at hp hq
  by_cases e28 : op = 28
  · clear ht
    rw [if_pos e28] at hp hq
    exact take_mono h hp hq
  rw [if_neg e28] at hp hq
  simp only [Option.some.injEq] at hp hq
  subst hp; subst hq; exact h
theorem heap_mono {l : List ClassR} {fr : Nm} {x : InsR} {f g f' g' : FrR} (hi : insErr x = 0) (h : leF (wl l) f g) (hp : heapF (wl l) fr x f = some f') (hq : heapF (wl l) fr x g = some g') : leF (wl l) f' g' := by
  obtain ⟨_, ht, _⟩ := ins_parts hi
  obtain ⟨op, ia, ib, ty, cl, nm⟩ := x
  unfold heapF at hp hq
  dsimp only at hp hq
  by_cases e15 : op = 15
  · clear ht
    rw [if_pos e15] at hp hq
    split at hp
    · cases hp
    rename_i h0
    rw [if_neg h0] at hq
    split at hp
    · cases hp
    rename_i h1
    rw [if_neg h1] at hq
    exact put_mono h (.refl (by simpa using h0)) hp hq
  rw [if_neg e15] at hp hq
  by_cases e16 : op = 16
  · clear ht
    rw [if_pos e16] at hp hq
    obtain ⟨t, h1, hp⟩ := oel hp
    obtain ⟨t', h2, hq⟩ := oel hq
    rw [h1] at h2
    cases h2
    exact putO_mono (fun f5 g5 h5 h6 => take_mono h h5 h6) (.refl (fld_kd2 h1)) hp hq
  rw [if_neg e16] at hp hq
  by_cases e17 : op = 17
  · clear ht
    rw [if_pos e17] at hp hq
    obtain ⟨t, h1, hp⟩ := oel hp
    obtain ⟨t', h2, hq⟩ := oel hq
    rw [h1] at h2
    cases h2
    exact take_mono h hp hq
  rw [if_neg e17] at hp hq
  by_cases e18 : op = 18
  · subst e18
    rw [if_pos rfl] at hp hq
    have h2 : TypeOk ty ∧ TypeOk (91 :: ty) := by simpa [typedB] using ht
    split at hp
    · cases hp
    rename_i h0
    rw [if_neg h0] at hq
    exact putO_mono (fun f5 g5 h5 h6 => take_mono h h5 h6) (.refl (arr_kind2 h2.2 (by simpa using h0))) hp hq
  rw [if_neg e18] at hp hq
  by_cases e19 : op = 19
  · clear ht
    rw [if_pos e19] at hp hq
    obtain ⟨⟨k, f2⟩, h1, hp⟩ := oel hp
    obtain ⟨⟨k', g2⟩, h2, hq⟩ := oel hq
    split at hp
    · split at hq
      · exact put_mono (ref_mono h h1 h2) (.refl (kd_int _)) hp hq
      · cases hq
    · cases hp
  rw [if_neg e19] at hp hq
  by_cases e20 : op = 20
  · clear ht
    rw [if_pos e20] at hp hq
    have hp' := hp
    unfold putO at hp'
    obtain ⟨f3, h3, _⟩ := oel hp'
    have hk := arr_kd (t := ty) (f := f) (by rw [h3]; simp)
    exact putO_mono (fun f5 g5 h5 h6 => arr_mono h h5 h6) (.refl hk) hp hq
  rw [if_neg e20] at hp hq
  by_cases e21 : op = 21
  · clear ht
    rw [if_pos e21] at hp hq
    split at hp
    · cases hp
    rename_i h0
    rw [if_neg h0] at hq
    obtain ⟨f2, h1, hp⟩ := oel hp
    obtain ⟨g2, h2, hq⟩ := oel hq
    exact arr_mono (take_mono h h1 h2) hp hq
  rw [if_neg e21] at hp hq
  by_cases e22 : op = 22
  · clear ht
    rw [if_pos e22] at hp hq
    split at hp
    · cases hp
    rename_i h0
    rw [if_neg h0] at hq
    obtain ⟨⟨k, f2⟩, h1, hp⟩ := oel hp
    obtain ⟨⟨k', g2⟩, h2, hq⟩ := oel hq
    exact put_mono (ref_mono h h1 h2) (.refl (by simpa using h0)) hp hq
  rw [if_neg e22] at hp hq
  by_cases e23 : op = 23
  · clear ht
    rw [if_pos e23] at hp hq
    split at hp
    · cases hp
    rename_i h0
    rw [if_neg h0] at hq
    obtain ⟨⟨k, f2⟩, h1, hp⟩ := oel hp
    obtain ⟨⟨k', g2⟩, h2, hq⟩ := oel hq
    exact put_mono (ref_mono h h1 h2) (.refl (kd_int _)) hp hq
  rw [if_neg e23] at hp hq
  by_cases e24 : op = 24
  · clear ht
    rw [if_pos e24] at hp hq
    exact call_mono h hp hq
  rw [if_neg e24] at hp hq
  by_cases e25 : op = 25
  · clear ht
    rw [if_pos e25] at hp hq
    exact call_mono h hp hq
  rw [if_neg e25] at hp hq
  simp only [Option.some.injEq] at hp hq
  subst hp; subst hq; exact h
theorem after_mono {l : List ClassR} {fr gv : Nm} {x : InsR} {f g f' g' : FrR} (hi : insErr x = 0) (h : leF (wl l) f g) (hp : afterF (wl l) fr gv x f = some f') (hq : afterF (wl l) fr gv x g = some g') : leF (wl l) f' g' := by
  unfold afterF at hp hq
  obtain ⟨f2, h1, hp⟩ := oel hp
  obtain ⟨g2, h2, hq⟩ := oel hq
  exact heap_mono hi (plain_mono hi h h1 h2) hp hq
theorem caught_mono {l : List ClassR} {c : Nm} {f g f' g' : FrR} (h : leF (wl l) f g) (hp : caughtF (wl l) c f = some f') (hq : caughtF (wl l) c g = some g') : leF (wl l) f' g' := by
  unfold caughtF at hp hq
  split at hp
  · cases hp
  rename_i h0
  rw [if_neg h0] at hq
  split at hp
  · rename_i h1
    rw [if_pos h1] at hq
    simp only [Option.some.injEq] at hp hq
    subst hp; subst hq
    exact ⟨h.loc, .cons (.refl (by simpa using h0)) .nil⟩
  · cases hp
end Go.Proofs.YtfddgdbebhmcnaaGreatDoor
namespace Go.Proofs.YtfddgdbebhmcnaaGreatDoor
set_option linter.unusedVariables false
set_option linter.unusedSimpArgs false
open Classical in
noncomputable def meetsB (L : List ClassR) (M : Int → Option FrR) (z : Int) (f : FrR) : Bool := (M z).elim false fun m => decide (sameSh f m) && decide (joinF L f m = m)
theorem meets_le {L : List ClassR} {M : Int → Option FrR} {z : Int} {f : FrR} (hM : ∀ z g, M z = some g → KOk L g) (hf : KOk L f) (h : meetsB L M z f = true) : ∃ m, M z = some m ∧ leF L f m := by
  unfold meetsB at h
  cases hm : M z with
  | none => rw [hm] at h; cases h
  | some m =>
    rw [hm] at h
    simp only [Option.elim_some, Bool.and_eq_true, decide_eq_true_eq] at h
    exact ⟨m, rfl, .of hf (hM z m hm) h.1 h.2⟩
noncomputable def capB (L : List ClassR) (cF : HandR → FrR → Option FrR) (hs : List HandR) (M : Int → Option FrR) (z : Nat) (f : FrR) : Bool :=
  hs.all fun h => (decide ((z : Int) < h.lo) || decide (h.hi ≤ (z : Int))) || (cF h f).elim false fun g => meetsB L M h.at_ g
noncomputable def wkF (L : List ClassR) (cF : HandR → FrR → Option FrR) (aF : InsR → FrR → Option FrR) (hs : List HandR) (M : Int → Option FrR) : List InsR → Nat → FrR → Bool → Bool
  | [], _, _, _ => true
  | x :: r, i, f, live =>
    if (M (i : Int)).isSome = true ∧ live = true ∧ meetsB L M (i : Int) f = false then false
    else if (M (i : Int)).isNone = true ∧ live = false then wkF L cF aF hs M r (i + 1) f false
    else if capB L cF hs M i ((M (i : Int)).getD f) = false then false
    else (aF x ((M (i : Int)).getD f)).elim false fun out => if jumpsB x.op = true ∧ meetsB L M x.a out = false then false else wkF L cF aF hs M r (i + 1) out (!endsB x.op)
structure SeenAt (L : List ClassR) (cF : HandR → FrR → Option FrR) (aF : InsR → FrR → Option FrR) (hs : List HandR) (M : Int → Option FrR) (n : Nat) (j : Nat) (m : FrR) (x : InsR) : Prop where
  cap : capB L cF hs M j m = true
  out : ∃ out, aF x m = some out ∧ (jumpsB x.op = true → meetsB L M x.a out = true) ∧ (endsB x.op = false → j + 1 < n → (M ((j + 1 : Nat) : Int)).isSome = true → meetsB L M ((j + 1 : Nat) : Int) out = true)
theorem wk_at {L : List ClassR} {cF : HandR → FrR → Option FrR} {aF : InsR → FrR → Option FrR} {hs : List HandR} {M : Int → Option FrR} : ∀ (l : List InsR) (i : Nat) (f : FrR) (live : Bool), wkF L cF aF hs M l i f live = true →
    (live = true → l ≠ [] → (M (i : Int)).isSome = true → meetsB L M (i : Int) f = true) ∧ ∀ (t : Nat) (m : FrR) (x : InsR), l[t]? = some x → M ((i + t : Nat) : Int) = some m → SeenAt L cF aF hs M (i + l.length) (i + t) m x
  | [], i, f, live, _ => ⟨fun _ h => absurd rfl h, fun t m x h => by simp at h⟩
  | x :: r, i, f, live, h => by
    unfold wkF at h
    split at h
    · cases h
    rename_i h1
    have first : live = true → x :: r ≠ [] → (M (i : Int)).isSome = true → meetsB L M (i : Int) f = true := fun hl _ hs => by
      cases hq : meetsB L M (i : Int) f with
      | true => rfl
      | false => exact absurd ⟨hs, hl, hq⟩ h1
    refine ⟨first, ?_⟩
    split at h
    · rename_i h2
      obtain ⟨_, ih⟩ := wk_at r (i + 1) f false h
      intro t m y hy hm
      cases t with
      | zero =>
        simp only [Nat.add_zero] at hm
        rw [hm] at h2; simp at h2
      | succ t =>
        have := ih t m y (by simpa using hy) (by rw [show i + 1 + t = i + (t + 1) by omega]; exact hm)
        rw [show i + 1 + t = i + (t + 1) by omega, show i + 1 + r.length = i + (x :: r).length by simp; omega] at this
        exact this
    · split at h
      · cases h
      rename_i h2 h3
      obtain ⟨out, ho, h⟩ : ∃ out, aF x ((M (i : Int)).getD f) = some out ∧ (if jumpsB x.op = true ∧ meetsB L M x.a out = false then false else wkF L cF aF hs M r (i + 1) out (!endsB x.op)) = true := by
        cases hq : aF x ((M (i : Int)).getD f) with
        | none => rw [hq] at h; cases h
        | some out => rw [hq] at h; exact ⟨out, rfl, h⟩
      split at h
      · cases h
      rename_i h4
      obtain ⟨ih1, ih⟩ := wk_at r (i + 1) out (!endsB x.op) h
      intro t m y hy hm
      cases t with
      | zero =>
        simp only [List.getElem?_cons_zero, Option.some.injEq] at hy
        subst hy
        simp only [Nat.add_zero] at hm
        rw [hm] at h3 ho
        simp only [Option.getD_some] at h3 ho
        refine ⟨by simpa using h3, out, ho, fun hj => ?_, fun he hlt hsm => ?_⟩
        · cases hq : meetsB L M x.a out with
          | true => rfl
          | false => exact absurd ⟨hj, hq⟩ h4
        · refine ih1 (by rw [he]; rfl) (fun e => ?_) hsm
          rw [e] at hlt
          simp at hlt
      | succ t =>
        have := ih t m y (by simpa using hy) (by rw [show i + 1 + t = i + (t + 1) by omega]; exact hm)
        rw [show i + 1 + t = i + (t + 1) by omega, show i + 1 + r.length = i + (x :: r).length by simp; omega] at this
        exact this
def Und (L : List ClassR) (M : Int → Option FrR) (s : LkSt) : Prop := ∀ z g, s.fr z = some g → ∃ m, M z = some m ∧ leF L g m
theorem meet_und {l : List ClassR} (hg : Good l) {M : Int → Option FrR} {s s' : LkSt} {z : Nat} {f m : FrR} (h : Und (wl l) M s) (hm : M (z : Int) = some m) (hf : leF (wl l) f m) (he : meetF (wl l) s z f = some s') : Und (wl l) M s' := by
  have up : ∀ g, leF (wl l) g m → Und (wl l) M ⟨updF s.fr z g, s.todo ++ [z]⟩ := fun g hgm y q hq => by
    change updF s.fr z g y = some q at hq
    by_cases e : y = (z : Int)
    · subst e
      rw [updF_same] at hq
      cases hq
      exact ⟨m, hm, hgm⟩
    · rw [updF_other _ _ _ e] at hq
      exact h y q hq
  cases hw : s.fr z with
  | none =>
    rw [meetF_new hw] at he
    cases he
    exact up f hf
  | some was =>
    obtain ⟨m', hm', hwm⟩ := h _ _ hw
    rw [hm] at hm'
    cases hm'
    by_cases hs : sameSh was f
    · by_cases hj : joinF (wl l) was f = was
      · rw [meetF_same hw hs hj] at he
        cases he
        exact h
      · rw [meetF_up hw hs hj] at he
        cases he
        exact up _ (hwm.lub hg hf)
    · rw [meetF_bad hw hs] at he; cases he
theorem meet_has {L : List ClassR} {s s' : LkSt} {z : Nat} {f : FrR} (he : meetF L s z f = some s') : (s'.fr (z : Int)).isSome = true ∧ LkUp s s' := by
  have up : ∀ g, ((⟨updF s.fr z g, s.todo ++ [z]⟩ : LkSt).fr (z : Int)).isSome = true ∧ LkUp s ⟨updF s.fr z g, s.todo ++ [z]⟩ := fun g => ⟨by show (updF s.fr z g z).isSome = true; rw [updF_same]; rfl, fun y hy => by
    show (updF s.fr z g y).isSome = true
    unfold updF; split
    · rfl
    · exact hy⟩
  cases hw : s.fr z with
  | none => rw [meetF_new hw] at he; cases he; exact up f
  | some was =>
    by_cases hs : sameSh was f
    · by_cases hj : joinF L was f = was
      · rw [meetF_same hw hs hj] at he; cases he; exact ⟨by rw [hw]; rfl, .refl _⟩
      · rw [meetF_up hw hs hj] at he; cases he; exact up _
    · rw [meetF_bad hw hs] at he; cases he
theorem hs_und {l : List ClassR} (hg : Good l) {M : Int → Option FrR} (hM : ∀ z g, M z = some g → KOk (wl l) g) {z : Nat} {f mz : FrR} (hf : leF (wl l) f mz) (hkz : KOk (wl l) mz) : ∀ {hs : List HandR} {s s' : LkSt}, (∀ h ∈ hs, 0 ≤ h.at_) → (hs.all fun h => (decide ((z : Int) < h.lo) || decide (h.hi ≤ (z : Int))) || (cFn (wl l) h mz).elim false fun g => meetsB (wl l) M h.at_ g) = true →
    Und (wl l) M s → hsF (wl l) (cFn (wl l)) z f hs s = some s' → Und (wl l) M s'
  | [], s, s', _, _, h, he => by simp only [hsF, Option.some.injEq] at he; subst he; exact h
  | x :: r, s, s', ha, hc, h, he => by
    rw [List.all_cons, Bool.and_eq_true] at hc
    unfold hsF at he
    split at he
    · exact hs_und hg hM hf hkz (fun y hy => ha y (by simp [hy])) hc.2 h he
    · rename_i hin
      obtain ⟨g, h1, he⟩ := oels he
      obtain ⟨s1, h2, he⟩ := oels he
      have h3 := hc.1
      rw [decide_eq_false (fun e => hin (Or.inl e)), decide_eq_false (fun e => hin (Or.inr e))] at h3
      simp only [Bool.or_self, Bool.false_or] at h3
      cases h4 : cFn (wl l) x mz with
      | none => rw [h4] at h3; cases h3
      | some g' =>
        rw [h4] at h3
        simp only [Option.elim_some] at h3
        obtain ⟨m, hm, hgm⟩ := meets_le hM (caught_kok hkz h4) h3
        have hle : leF (wl l) g m := (caught_mono hf h1 h4).trans hg hgm
        have hat : ((x.at_.toNat : Nat) : Int) = x.at_ := by have := ha x (by simp); omega
        have := meet_und hg h (by rw [hat]; exact hm) hle h2
        exact hs_und hg hM hf hkz (fun y hy => ha y (by simp [hy])) hc.2 this he
theorem nx_und {l : List ClassR} (hg : Good l) {M : Int → Option FrR} {out : FrR} : ∀ {js : List Nat} {s s' : LkSt}, (∀ j ∈ js, ∃ m, M (j : Int) = some m ∧ leF (wl l) out m) → Und (wl l) M s → nxF (wl l) out js s = some s' → Und (wl l) M s'
  | [], s, s', _, h, he => by simp only [nxF, Option.some.injEq] at he; subst he; exact h
  | j :: r, s, s', ha, h, he => by
    unfold nxF at he
    obtain ⟨s1, h1, he⟩ := oels he
    obtain ⟨m, hm, hle⟩ := ha j (by simp)
    exact nx_und hg (fun y hy => ha y (by simp [hy])) (meet_und hg h hm hle h1) he
theorem nx_has {L : List ClassR} {out : FrR} : ∀ {js : List Nat} {s s' : LkSt}, nxF L out js s = some s' → (∀ j ∈ js, (s'.fr (j : Int)).isSome = true) ∧ LkUp s s'
  | [], s, s', he => by simp only [nxF, Option.some.injEq] at he; subst he; exact ⟨fun j hj => by simp at hj, .refl _⟩
  | j :: r, s, s', he => by
    unfold nxF at he
    obtain ⟨s1, h1, he⟩ := oels he
    obtain ⟨k1, k2⟩ := meet_has h1
    obtain ⟨k3, k4⟩ := nx_has he
    refine ⟨fun y hy => ?_, k2.trans k4⟩
    rcases List.mem_cons.1 hy with rfl | hy
    · exact k4 _ k1
    · exact k3 y hy
theorem look_und {l : List ClassR} (hg : Good l) {c : Nm} {m : MethR} (hm : MOk m) {M : Int → Option FrR} (hM : ∀ z g, M z = some g → KOk (wl l) g) {n0 : Nat} {f0 : FrR} (hw : wkF (wl l) (cFn (wl l)) (afterF (wl l) c (givesL m)) m.hs M m.code 0 f0 true = true) {z : Nat} {s s' : LkSt} (h : Und (wl l) M s) (ho : LkOk (wl l) m.code.length s)
    (hd : ∀ y, (s'.fr y).isSome = true → (M y).isSome = true) (he : lkFn (wl l) c m z s = some s') : Und (wl l) M s' := by
  unfold lkFn lookF at he
  obtain ⟨f, hf, he⟩ := oels he
  obtain ⟨s1, h1, he⟩ := oels he
  obtain ⟨x, hx, he⟩ := oels he
  obtain ⟨out, hout, he⟩ := oels he
  have hzl : z < m.code.length := (List.getElem?_eq_some_iff.1 hx).1
  obtain ⟨mz, hmz, hle⟩ := h _ _ hf
  have hkz := hM _ _ hmz
  have hkf := (ho.kok _ _ hf).1
  have hxm := List.mem_of_getElem? hx
  have hxi := hm.flow.ins x hxm
  obtain ⟨_, hwk⟩ := wk_at m.code 0 f0 true hw
  obtain ⟨hcap, outM, ho1, ho2, ho3⟩ := hwk z mz x hx (by rw [Nat.zero_add]; exact hmz)
  rw [Nat.zero_add] at hcap
  simp only [Nat.zero_add] at ho3
  have hu1 := hs_und hg hM hle hkz (fun y hy => (hm.hs y hy).2.2.2.1) hcap h h1
  have hlo := after_mono hxi hle hout ho1
  have hkm := after_kok hxi hkz ho1
  obtain ⟨n1, n2⟩ := nx_has he
  refine nx_und hg (fun j hj => ?_) hu1 he
  have hjM := hd _ (n1 j hj)
  have hjl := aft_lt hm.flow hzl hj
  unfold aft at hj
  rw [hx] at hj
  simp only [List.mem_append] at hj
  rcases hj with hj | hj
  · split at hj
    · simp at hj
    · rename_i hend
      rw [List.mem_singleton.1 hj] at hjM hjl ⊢
      obtain ⟨m', k1, k2⟩ := meets_le hM hkm (ho3 (by simpa using hend) hjl hjM)
      exact ⟨m', k1, hlo.trans hg k2⟩
  · split at hj
    · rename_i hju
      rw [List.mem_singleton.1 hj]
      have hjb : jumpsB x.op = true := by rw [Bool.and_eq_true] at hju; exact hju.1
      obtain ⟨m', k1, k2⟩ := meets_le hM hkm (ho2 hjb)
      have ha := (jumps_ranged hxi hjb).1
      exact ⟨m', by rw [show ((x.a.toNat : Nat) : Int) = x.a by omega]; exact k1, hlo.trans hg k2⟩
    · simp at hj
theorem run_up {lk : Nat → LkSt → Option LkSt} (H : ∀ z s s', lk z s = some s' → LkUp s s') : ∀ (k : Nat) {s : LkSt} {fr : Int → Option FrR}, runF lk k s = some fr → ∀ y, (s.fr y).isSome = true → (fr y).isSome = true
  | 0, s, fr, h => by cases h
  | k + 1, s, fr, h => by
    unfold runF at h
    cases ht : s.todo with
    | nil => rw [ht] at h; simp only [Option.some.injEq] at h; subst h; exact fun y hy => hy
    | cons z r =>
      rw [ht] at h
      dsimp only at h
      obtain ⟨s', h1, h⟩ := oels h
      intro y hy
      exact run_up H k h y (H z _ s' h1 y hy)
theorem look_up {l : List ClassR} {c : Nm} {m : MethR} {z : Nat} {s s' : LkSt} (he : lkFn (wl l) c m z s = some s') : LkUp s s' := by
  have hsup : ∀ {f : FrR} {hs : List HandR} {s s' : LkSt}, hsF (wl l) (cFn (wl l)) z f hs s = some s' → LkUp s s' := by
    intro f hs
    induction hs with
    | nil => intro s s' h; simp only [hsF, Option.some.injEq] at h; subst h; exact .refl _
    | cons x r ih =>
      intro s s' h
      unfold hsF at h
      split at h
      · exact ih h
      · obtain ⟨g, _, h⟩ := oels h
        obtain ⟨s1, h1, h⟩ := oels h
        exact (meet_has h1).2.trans (ih h)
  unfold lkFn lookF at he
  obtain ⟨f, hf, he⟩ := oels he
  obtain ⟨s1, h1, he⟩ := oels he
  obtain ⟨x, hx, he⟩ := oels he
  obtain ⟨out, hout, he⟩ := oels he
  exact (hsup h1).trans (nx_has he).2
theorem run_und {l : List ClassR} (hg : Good l) {c : Nm} {m : MethR} (hm : MOk m) {M : Int → Option FrR} (hM : ∀ z g, M z = some g → KOk (wl l) g) {f0 : FrR} (hw : wkF (wl l) (cFn (wl l)) (afterF (wl l) c (givesL m)) m.hs M m.code 0 f0 true = true) {fr : Int → Option FrR} (hd : ∀ y, (fr y).isSome = true → (M y).isSome = true) :
    ∀ (k : Nat) {s : LkSt}, LkOk (wl l) m.code.length s → Und (wl l) M s → runF (lkFn (wl l) c m) k s = some fr → ∀ z g, fr z = some g → ∃ m, M z = some m ∧ leF (wl l) g m
  | 0, s, _, _, h => by cases h
  | k + 1, s, ho, hu, h => by
    unfold runF at h
    cases ht : s.todo with
    | nil => rw [ht] at h; simp only [Option.some.injEq] at h; subst h; exact hu
    | cons z r =>
      rw [ht] at h
      dsimp only at h
      obtain ⟨s', h1, h⟩ := oels h
      obtain ⟨hp, _, _, _⟩ := pop_lk ho ht
      have hst := lk_step hg hm z _ s' hp h1
      have hup := run_up (fun _ _ _ h => look_up h) k h
      exact run_und hg hm hM hw hd k hst.ok (look_und (n0 := 0) hg hm hM hw (show Und (wl l) M ⟨s.fr, r⟩ from hu) hp (fun y hy => hd y (hup y hy)) h1) h
theorem maps_above {l : List ClassR} (hg : Good l) {c : Nm} {m : MethR} (hm : MOk m) {fr M : Int → Option FrR} (hl : lookedF (wl l) c m = some fr) (hd : ∀ y, (fr y).isSome = true → (M y).isSome = true) (hM : ∀ z g, M z = some g → KOk (wl l) g)
    (hw : wkF (wl l) (cFn (wl l)) (afterF (wl l) c (givesL m)) m.hs M m.code 0 (firstF c m) true = true) : ∀ z g, fr z = some g → ∃ q, M z = some q ∧ leF (wl l) g q := by
  unfold lookedF at hl
  split at hl
  · cases hl
  rename_i h1
  split at hl
  · cases hl
  have hk := first_kok hm (L := wl l) (c := c) (by simpa using h1)
  have hn : m.code ≠ [] := fun e => by
    have := hm.flow.last
    rw [e] at this; simp [endOk] at this
  have hn0 : 0 < m.code.length := List.length_pos_iff.2 hn
  unfold resF at hl
  have ho := start_ok (L := wl l) hk hn0
  refine run_und hg hm hM hw hd _ ho (fun z g hz => ?_) hl
  change updF (fun _ => none) 0 (firstF c m) z = some g at hz
  unfold updF at hz
  split at hz
  · rename_i e
    cases hz
    subst e
    have h0 := run_up (fun _ _ _ h => look_up h) _ hl 0 (by show (updF (fun _ => none) 0 (firstF c m) 0).isSome = true; rw [updF_same]; rfl)
    exact meets_le hM hk ((wk_at m.code 0 (firstF c m) true hw).1 rfl hn (hd 0 h0))
  · cases hz
end Go.Proofs.YtfddgdbebhmcnaaGreatDoor
