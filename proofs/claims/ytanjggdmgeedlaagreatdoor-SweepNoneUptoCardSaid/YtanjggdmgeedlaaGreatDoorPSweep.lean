/-
  Plain law: what is marked; every reference may be a root.
-/
import Derived.Test.YtanjggdmgeedlaaGreatDoorHeap5
namespace Go.Proofs.YtanjggdmgeedlaaGreatDoor
set_option linter.unusedVariables false
set_option linter.unusedSimpArgs false
open Go.Lib Go.RowKit

/-- a reference within n things -/
def InR (n : Nat) (v : ValR) : Prop := v.kind = 3 → 0 ≤ v.n ∧ v.n ≤ n
theorem val_in {L : List ClassR} {tys : List Nm} {v : ValR} {t : Nm} (h : valB L tys v t = true) : InR tys.length v := by
  intro h3
  unfold valB at h
  rw [if_neg (by omega), if_neg (by omega), if_pos h3, Bool.and_eq_true, Bool.and_eq_true, decide_eq_true_eq] at h
  exact h.1.2
theorem right_in {L : List ClassR} {X : List ThingR} (h : rightErr L X = 0) : ∀ x ∈ X, ∀ v ∈ x.has, InR X.length v := by
  obtain ⟨_, h2, h3⟩ := right_zero.1 h
  intro x hx v hv
  obtain ⟨d, b, he, hok, hrf, hlen, _⟩ := form_kd (h2 x hx)
  have := h3 x hx
  unfold thingB at this
  rw [List.all_eq_true] at this
  obtain ⟨j, hj⟩ := List.getElem?_of_mem hv
  have hjl := (List.getElem?_eq_some_iff.1 hj).1
  have h4 := this j (List.mem_range.2 (by omega))
  have e : x.has.getD j ⟨0, 0⟩ = v := by rw [List.getD_eq_getElem?_getD, hj]; rfl
  rw [e] at h4
  have h5 := val_in h4
  rw [List.length_map] at h5
  exact h5
/-- what is marked: s grows to s', and what l names is in it -/
def Marks (l : List ValR) (s s' : List Bool) : Prop := s'.length = s.length ∧ (∀ i : Nat, s[i]? = some true → s'[i]? = some true) ∧ s'[0]? = s[0]? ∧ (∀ v ∈ l, v.kind = 3 → 0 < v.n → s'[v.n.toNat]? = some true) ∧ (l = [] → s' = s)
theorem Marks.nil (s : List Bool) : Marks [] s s := ⟨rfl, fun _ h => h, rfl, (fun v hv => by cases hv), fun _ => rfl⟩
def unmk (s : List Bool) : Nat := s.count false
theorem unmk_set {s : List Bool} {i : Nat} (h : s[i]? = some false) : unmk (s.set i true) + 1 = unmk s := by
  unfold unmk
  induction s generalizing i with
  | nil => simp at h
  | cons a r ih =>
    cases i with
    | zero =>
      simp only [List.getElem?_cons_zero, Option.some.injEq] at h
      subst h
      simp
    | succ i =>
      simp only [List.getElem?_cons_succ] at h
      rw [List.set_cons_succ, List.count_cons, List.count_cons]
      have := ih h
      omega
theorem marks_le {l : List ValR} {s s' : List Bool} (h : Marks l s s') : unmk s' ≤ unmk s := by
  have h1 := h.1
  have h2 := h.2.1
  clear h
  clear l
  unfold unmk
  induction s generalizing s' with
  | nil => cases s' with
    | nil => exact Nat.le_refl _
    | cons a r => simp at h1
  | cons a r ih =>
    cases s' with
    | nil => simp at h1
    | cons b r' =>
      rw [List.count_cons, List.count_cons]
      have i1 := ih (s' := r') (by simpa using h1) (fun i hi => by have := h2 (i + 1) (by simpa using hi); simpa using this)
      have i2 : (if (b == false) = true then 1 else 0) ≤ (if (a == false) = true then 1 else 0) := by
        cases a with
        | false => cases b <;> simp
        | true => have := h2 0 rfl; simp at this; subst this; simp
      omega
theorem Marks.skip {l : List ValR} {s s' : List Bool} {v : ValR} (h : Marks l s s') (hv : v.kind = 3 → 0 < v.n → s'[v.n.toNat]? = some true) : Marks (l ++ [v]) s s' :=
  ⟨h.1, h.2.1, h.2.2.1, (fun u hu => by
    rcases List.mem_append.1 hu with hu | hu
    · exact h.2.2.2.1 u hu
    · rw [List.mem_singleton.1 hu]; exact hv), fun e => by simp at e⟩
theorem Marks.down {l m : List ValR} {s s' s'' : List Bool} {v : ValR} (h : Marks l s s') (h0 : 0 < v.n) (hlt : v.n.toNat < s'.length) (h2 : Marks m (s'.set v.n.toNat true) s'') : Marks (l ++ [v]) s s'' := by
  have up : ∀ i : Nat, s'[i]? = some true → s''[i]? = some true := fun i hi => h2.2.1 i (by
    rw [List.getElem?_set]
    split
    · rfl
    · exact hi)
  refine ⟨by rw [h2.1, List.length_set, h.1], fun i hi => up i (h.2.1 i hi), ?_, fun u hu h3 hp => ?_, fun e => by simp at e⟩
  · rw [h2.2.2.1, List.getElem?_set_ne (by omega), h.2.2.1]
  · rcases List.mem_append.1 hu with hu | hu
    · exact up _ (h.2.2.2.1 u hu h3 hp)
    · rw [List.mem_singleton.1 hu] at hp ⊢
      exact h2.2.1 _ (by rw [List.getElem?_set_self hlt])
/-- all places as roots -/
def rootsN (n : Nat) : List ValR := (List.range n).map fun (i : Nat) => ⟨3, (i : Int) + 1⟩
theorem roots_len (n : Nat) : (rootsN n).length = n := by simp [rootsN]
theorem roots_at {n i : Nat} (h : i < n) : (rootsN n)[i]? = some ⟨3, (i : Int) + 1⟩ := by simp [rootsN, h]
theorem roots_snoc (n : Nat) : rootsN (n + 1) = rootsN n ++ [⟨3, (n : Int) + 1⟩] := by unfold rootsN; rw [List.range_succ, List.map_append]; rfl
theorem roots_in {n : Nat} {v : ValR} (h : v ∈ rootsN n) : v.kind = 3 ∧ 1 ≤ v.n ∧ v.n ≤ n := by
  unfold rootsN at h
  obtain ⟨i, hi, rfl⟩ := List.mem_map.1 h
  have := List.mem_range.1 hi
  exact ⟨rfl, by show (1 : Int) ≤ (i : Int) + 1; omega, by show (i : Int) + 1 ≤ n; omega⟩
theorem marks_none {s : List Bool} {n : Nat} (h : Marks [] (List.replicate (n + 1) false) s) : s = false :: List.replicate n false := h.2.2.2.2 rfl
theorem marks_all {n : Nat} {s : List Bool} (h : Marks (rootsN n) (List.replicate (n + 1) false) s) : s = false :: List.replicate n true := by
  obtain ⟨h1, _, h3, h4, _⟩ := h
  cases s with
  | nil => simp at h1
  | cons a r =>
    rw [List.getElem?_cons_zero, List.replicate_succ, List.getElem?_cons_zero, Option.some.injEq] at h3
    subst h3
    rw [List.cons.injEq]
    refine ⟨rfl, List.eq_replicate_iff.2 ⟨by simpa using h1, fun b hb => ?_⟩⟩
    obtain ⟨j, hj⟩ := List.getElem?_of_mem hb
    have hjl := (List.getElem?_eq_some_iff.1 hj).1
    have hn : r.length = n := by simpa using h1
    have := h4 _ (List.mem_of_getElem? (roots_at (n := n) (i := j) (by omega))) rfl (by show (0 : Int) < (j : Int) + 1; omega)
    have e : ((j : Int) + 1).toNat = j + 1 := by omega
    simp only [e, List.getElem?_cons_succ] at this
    rw [hj] at this
    simpa using this
/-- whatever a thing is, it is an Object -/
theorem does_obj {l : List ClassR} (hg : Good l) {d : Nat} {b : Bse} (hok : (Kd.ty d b).Ok (wl l)) (hr : (Kd.ty d b).refs = true) : doesK (wl l) (.ty d b) (.ty 0 (.cls objN)) = true := by
  cases d with
  | succ d => simp [doesK, doesT]
  | zero =>
    cases b with
    | int => simp [Kd.refs, Bse.isRef] at hr
    | long => simp [Kd.refs, Bse.isRef] at hr
    | cls n =>
      rw [does_thing]
      have hn : n ∈ names l := look_some.1 hok.2.2
      have := (good_every hg n objN).2 (line_obj hg hn).rc
      simp [this]
theorem root_val {l : List ClassR} (hg : Good l) {X : List ThingR} (h : rightErr (wl l) X = 0) {n : Nat} (hn : n ≤ X.length) {v : ValR} (hv : v ∈ rootsN n) : valB (wl l) (X.map (·.ty)) v (Kd.ty 0 (.cls objN)).text = true := by
  obtain ⟨h3, h4, h5⟩ := roots_in hv
  unfold valB
  rw [if_neg (by omega), if_neg (by omega), if_pos h3, ← refs_head, refs_text, List.length_map, decide_eq_true (show 0 ≤ v.n ∧ v.n ≤ X.length by omega)]
  have hj : (v.n - 1).toNat < X.length := by omega
  have e : (X.map (·.ty)).getD (v.n - 1).toNat [] = X[(v.n - 1).toNat].ty := by rw [List.getD_eq_getElem?_getD, List.getElem?_map, List.getElem?_eq_getElem hj]; rfl
  obtain ⟨d, b, he, hok, hrf, _, _⟩ := form_kd ((right_zero.1 h).2.1 _ (List.getElem_mem hj))
  rw [e, he, doesN_text, does_obj hg hok hrf]
  simp [Kd.refs, Bse.isRef]
theorem root_no {L : List ClassR} {tys : List Nm} {n : Nat} {v : ValR} (hv : v ∈ rootsN n) : valB L tys v [73] = false ∧ valB L tys v [74] = false := by
  obtain ⟨h3, _⟩ := roots_in hv
  unfold valB
  rw [if_neg (by omega), if_neg (by omega), if_pos h3, if_neg (by omega), if_neg (by omega), if_pos h3]
  exact ⟨rfl, rfl⟩
end Go.Proofs.YtanjggdmgeedlaaGreatDoor
