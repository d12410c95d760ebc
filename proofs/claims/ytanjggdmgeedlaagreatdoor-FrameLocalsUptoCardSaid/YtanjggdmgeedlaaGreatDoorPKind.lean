/-
  Plain law (no program): kinds: N, T, and right types; which fits which; what both are.
-/
import Derived.Test.YtanjggdmgeedlaaGreatDoorPlain
namespace Go.Proofs.YtanjggdmgeedlaaGreatDoor
set_option linter.unusedVariables false
set_option linter.unusedSimpArgs false
open Go.Lib

inductive Bse where
  | int
  | long
  | cls (n : Nm)
inductive Kd where
  | nul
  | top
  | ty (d : Nat) (b : Bse)
def Bse.text : Bse → Nm
  | .int => [73]
  | .long => [74]
  | .cls n => 76 :: (n ++ [59])
def Bse.isRef : Bse → Bool
  | .cls _ => true
  | _ => false
/-- the class in a type; none: empty -/
def Bse.cl : Bse → Nm
  | .cls n => n
  | _ => []
def Kd.text : Kd → Nm
  | .nul => [78]
  | .top => [84]
  | .ty d b => List.replicate d 91 ++ b.text
def Kd.refs : Kd → Bool
  | .ty 0 b => b.isRef
  | .ty (_ + 1) _ => true
  | _ => false
def Bse.Ok (L : List ClassR) : Bse → Prop
  | .cls n => nameOk n = true ∧ (look L n).isSome = true
  | _ => True
def Kd.Ok (L : List ClassR) : Kd → Prop
  | .ty d b => d ≤ 3 ∧ b.Ok L
  | _ => True

theorem arr_one (d : Nat) (b : Bse) : (Kd.ty (d + 1) b).text = 91 :: (Kd.ty d b).text := rfl
theorem base_head (b : Bse) : ∃ c r, b.text = c :: r ∧ c ≠ 91 ∧ c ≠ 78 ∧ c ≠ 84 := by
  cases b with
  | int => exact ⟨73, [], rfl, by decide, by decide, by decide⟩
  | long => exact ⟨74, [], rfl, by decide, by decide, by decide⟩
  | cls n => exact ⟨76, n ++ [59], rfl, by decide, by decide, by decide⟩
theorem base_inj {a b : Bse} (h : a.text = b.text) : a = b := by
  cases a <;> cases b <;> simp [Bse.text] at h <;> first | rfl | (rw [h])
theorem ty_inj : ∀ {d e : Nat} {a b : Bse}, (Kd.ty d a).text = (Kd.ty e b).text → d = e ∧ a = b
  | 0, 0, a, b, h => ⟨rfl, base_inj h⟩
  | 0, e + 1, a, b, h => by
    obtain ⟨c, r, hc, h1, _⟩ := base_head a
    rw [arr_one] at h
    simp only [Kd.text, List.replicate, List.nil_append, hc, List.cons.injEq] at h
    exact absurd h.1 h1
  | d + 1, 0, a, b, h => by
    obtain ⟨c, r, hc, h1, _⟩ := base_head b
    rw [arr_one] at h
    simp only [Kd.text, List.replicate, List.nil_append, hc, List.cons.injEq] at h
    exact absurd h.1.symm h1
  | d + 1, e + 1, a, b, h => by
    rw [arr_one, arr_one] at h
    simp only [List.cons.injEq, true_and] at h
    obtain ⟨h1, h2⟩ := ty_inj h
    exact ⟨by rw [h1], h2⟩
theorem ty_head (d : Nat) (b : Bse) : ∃ c r, (Kd.ty d b).text = c :: r ∧ c ≠ 78 ∧ c ≠ 84 := by
  cases d with
  | zero => obtain ⟨c, r, h, _, h2⟩ := base_head b; exact ⟨c, r, h, h2⟩
  | succ d => exact ⟨91, _, arr_one d b, by decide, by decide⟩
theorem text_inj {a b : Kd} (h : a.text = b.text) : a = b := by
  cases a with
  | nul =>
    cases b with
    | nul => rfl
    | top => simp [Kd.text] at h
    | ty d b =>
      obtain ⟨c, r, hc, h1, _⟩ := ty_head d b
      rw [hc] at h
      simp only [Kd.text, List.cons.injEq] at h
      exact absurd h.1.symm h1
  | top =>
    cases b with
    | nul => simp [Kd.text] at h
    | top => rfl
    | ty d b =>
      obtain ⟨c, r, hc, _, h1⟩ := ty_head d b
      rw [hc] at h
      simp only [Kd.text, List.cons.injEq] at h
      exact absurd h.1.symm h1
  | ty d a =>
    cases b with
    | nul =>
      obtain ⟨c, r, hc, h1, _⟩ := ty_head d a
      rw [hc] at h
      simp only [Kd.text, List.cons.injEq] at h
      exact absurd h.1 h1
    | top =>
      obtain ⟨c, r, hc, _, h1⟩ := ty_head d a
      rw [hc] at h
      simp only [Kd.text, List.cons.injEq] at h
      exact absurd h.1 h1
    | ty e b =>
      obtain ⟨h1, h2⟩ := ty_inj h
      rw [h1, h2]

/-- a right type, apart from whether its class is there -/
theorem type_kd {t : Nm} : TypeOk t ↔ ∃ d b, t = (Kd.ty d b).text ∧ d ≤ 3 ∧ ∀ n, b = .cls n → nameOk n = true := by
  constructor
  · rintro ⟨P, X, rfl, hP, hl, hX⟩
    have hr : P = List.replicate P.length 91 := List.eq_replicate_iff.2 ⟨rfl, hP⟩
    rcases hX with rfl | rfl | ⟨n, hn, rfl⟩
    · exact ⟨P.length, .int, by rw [hr]; simp [Kd.text, Bse.text], hl, fun n e => by cases e⟩
    · exact ⟨P.length, .long, by rw [hr]; simp [Kd.text, Bse.text], hl, fun n e => by cases e⟩
    · exact ⟨P.length, .cls n, by rw [hr]; simp [Kd.text, Bse.text], hl, fun m e => by cases e; exact hn⟩
  · rintro ⟨d, b, rfl, hd, hn⟩
    refine ⟨List.replicate d 91, b.text, rfl, fun b hb => (List.mem_replicate.1 hb).2, by simpa using hd, ?_⟩
    cases b with
    | int => exact Or.inl rfl
    | long => exact Or.inr (Or.inl rfl)
    | cls n => exact Or.inr (Or.inr ⟨n, hn n rfl, rfl⟩)

open Classical in
/-- what is wrong with a kind -/
noncomputable def kindErr (L : List ClassR) (t : Nm) : Int :=
  if t = [78] ∨ t = [84] then 0 else if ¬ TypeOk t then 1 else if ∃ d n, t = (Kd.ty d (.cls n)).text ∧ look L n = none then 3 else 0
theorem kind_nt {L : List ClassR} {t : Nm} (h : t = [78] ∨ t = [84]) : kindErr L t = 0 := by unfold kindErr; rw [if_pos h]
theorem kind_bad {L : List ClassR} {t : Nm} (h1 : ¬ (t = [78] ∨ t = [84])) (h : ¬ TypeOk t) : kindErr L t = 1 := by unfold kindErr; rw [if_neg h1, if_pos h]
theorem ty_nt (d : Nat) (b : Bse) : ¬ ((Kd.ty d b).text = [78] ∨ (Kd.ty d b).text = [84]) := by
  obtain ⟨c, r, hc, h1, h2⟩ := ty_head d b
  rw [hc]
  rintro (e | e) <;> simp only [List.cons.injEq] at e
  · exact h1 e.1
  · exact h2 e.1
theorem kind_none {L : List ClassR} {d : Nat} {n : Nm} (hd : d ≤ 3) (hn : nameOk n = true) (hl : look L n = none) : kindErr L (Kd.ty d (.cls n)).text = 3 := by
  unfold kindErr
  rw [if_neg (ty_nt _ _), if_neg (fun h => h (type_kd.2 ⟨d, _, rfl, hd, fun m e => by cases e; exact hn⟩)), if_pos ⟨d, n, rfl, hl⟩]
theorem kind_ok {L : List ClassR} {k : Kd} (h : k.Ok L) : kindErr L k.text = 0 := by
  cases k with
  | nul => exact kind_nt (Or.inl rfl)
  | top => exact kind_nt (Or.inr rfl)
  | ty d b =>
    unfold kindErr
    rw [if_neg (ty_nt _ _), if_neg, if_neg]
    · rintro ⟨e, n, h1, h2⟩
      obtain ⟨rfl, rfl⟩ := ty_inj h1
      have := h.2.2
      rw [h2] at this
      cases this
    · intro hn
      refine hn (type_kd.2 ⟨d, b, rfl, h.1, fun n e => ?_⟩)
      subst e
      exact h.2.1
theorem kind_zero {L : List ClassR} {t : Nm} : kindErr L t = 0 ↔ ∃ k : Kd, k.Ok L ∧ t = k.text := by
  constructor
  · intro h
    by_cases h1 : t = [78]
    · exact ⟨.nul, trivial, h1⟩
    by_cases h2 : t = [84]
    · exact ⟨.top, trivial, h2⟩
    by_cases h3 : TypeOk t
    · obtain ⟨d, b, rfl, hd, hn⟩ := type_kd.1 h3
      refine ⟨.ty d b, ⟨hd, ?_⟩, rfl⟩
      cases b with
      | int => trivial
      | long => trivial
      | cls n =>
        refine ⟨hn n rfl, ?_⟩
        cases hl : look L n with
        | some c => rfl
        | none => rw [kind_none hd (hn n rfl) hl] at h; omega
    · rw [kind_bad (by rintro (e | e) <;> contradiction) h3] at h; omega
  · rintro ⟨k, hk, rfl⟩
    exact kind_ok hk

theorem good_nameOk {l : List ClassR} (hg : Good l) {n : Nm} (h : n ∈ names l) : nameOk n = true := by
  unfold names wl at h
  simp only [List.map_cons, List.mem_cons] at h
  rcases h with rfl | rfl | h
  · decide
  · decide
  · obtain ⟨c, hc, rfl⟩ := List.mem_map.1 h
    exact (classErr_ok (hg.ok c hc)).1.1
theorem thing_kd {l : List ClassR} (hg : Good l) {n : Nm} (h : n ∈ names l) : (Kd.ty 0 (.cls n)).Ok (wl l) := ⟨by omega, good_nameOk hg h, look_some.2 h⟩

open Classical in
noncomputable def doesT (L : List ClassR) : Nat → Bse → Nat → Bse → Bool
  | 0, b, 0, b' => decide (b = b') || (b.isRef && b'.isRef && (every L b.cl).contains b'.cl)
  | _ + 1, _, 0, b' => decide (b' = .cls objN)
  | 0, _, _ + 1, _ => false
  | d + 1, b, d' + 1, b' => decide (d = d' ∧ b = b') || ((Kd.ty d b).refs && (Kd.ty d' b').refs && doesT L d b d' b')
noncomputable def doesK (L : List ClassR) : Kd → Kd → Bool
  | _, .top => true
  | .nul, .nul => true
  | .nul, k => k.refs
  | .top, _ => false
  | .ty _ _, .nul => false
  | .ty d b, .ty d' b' => doesT L d b d' b'

theorem does_thing (L : List ClassR) (a b : Nm) : doesK L (.ty 0 (.cls a)) (.ty 0 (.cls b)) = (decide (a = b) || (every L a).contains b) := by
  simp [doesK, doesT, Bse.isRef, Bse.cl]

open Classical in
/-- the first of the one's line that is in the other's -/
noncomputable def joinC (L : List ClassR) (a b : Nm) : Nm :=
  if ((look L a).elim false (·.face) || (look L b).elim false (·.face)) = true then objN else ((line L a).find? (fun c => (line L b).contains c)).getD objN
def Kd.up : Kd → Kd
  | .ty d b => .ty (d + 1) b
  | k => k
open Classical in
noncomputable def joinT (L : List ClassR) : Nat → Bse → Nat → Bse → Kd
  | 0, b, 0, b' => if b = b' then .ty 0 b else if (b.isRef && b'.isRef) = true then .ty 0 (.cls (joinC L b.cl b'.cl)) else .top
  | _ + 1, _, 0, b' => if b'.isRef = true then .ty 0 (.cls objN) else .top
  | 0, b, _ + 1, _ => if b.isRef = true then .ty 0 (.cls objN) else .top
  | d + 1, b, d' + 1, b' => if d = d' ∧ b = b' then .ty (d + 1) b else if ((Kd.ty d b).refs && (Kd.ty d' b').refs) = true then (joinT L d b d' b').up else .ty 0 (.cls objN)
noncomputable def joinK (L : List ClassR) : Kd → Kd → Kd
  | .nul, .nul => .nul
  | .top, _ => .top
  | _, .top => .top
  | .nul, k => if k.refs = true then k else .top
  | k, .nul => if k.refs = true then k else .top
  | .ty d b, .ty d' b' => joinT L d b d' b'
end Go.Proofs.YtanjggdmgeedlaaGreatDoor
