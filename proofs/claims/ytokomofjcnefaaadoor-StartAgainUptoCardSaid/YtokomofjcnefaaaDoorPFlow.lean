/-
  Plain law (no program): what is wrong with code; which places are come to.
-/
import Derived.Test.YtokomofjcnefaaaDoorPIns
namespace Go.Proofs.YtokomofjcnefaaaDoor
set_option linter.unusedVariables false
set_option linter.unusedSimpArgs false

def endsB (op : Int) : Bool := op == 14 || op == 26 || op == 27 || op == 28

noncomputable def firstErr : List InsR → Int
  | [] => 0
  | x :: r => if insErr x = 0 then firstErr r else insErr x

def endOk (l : List InsR) : Bool :=
  match l.getLast? with
  | some x => endsB x.op
  | none => false

noncomputable def flowErr (l : List InsR) : Int :=
  if 40 < l.length then 4
  else if firstErr l ≠ 0 then firstErr l
  else if l.any (fun x => jumpsB x.op && decide ((l.length : Int) ≤ x.a)) then 2
  else if endOk l then 0 else 8

theorem firstErr_zero : ∀ (l : List InsR), firstErr l = 0 ↔ ∀ x ∈ l, insErr x = 0
  | [] => by simp [firstErr]
  | x :: r => by
    have ih := firstErr_zero r
    by_cases h : insErr x = 0
    · simp [firstErr, h, ih]
    · simp [firstErr, h]

/-- right code -/
structure FlowOk (l : List InsR) : Prop where
  len : l.length ≤ 40
  ins : ∀ x ∈ l, insErr x = 0
  jump : ∀ x ∈ l, jumpsB x.op = true → x.a < (l.length : Int)
  last : endOk l = true

theorem flowErr_zero (l : List InsR) : flowErr l = 0 ↔ FlowOk l := by
  unfold flowErr
  by_cases h1 : 40 < l.length
  · rw [if_pos h1]
    exact ⟨fun h => by omega, fun h => by have := h.len; omega⟩
  rw [if_neg h1]
  by_cases h2 : firstErr l = 0
  · rw [if_neg (by simp [h2])]
    by_cases h3 : l.any (fun x => jumpsB x.op && decide ((l.length : Int) ≤ x.a)) = true
    · rw [if_pos h3]
      refine ⟨fun h => by omega, fun h => ?_⟩
      rw [List.any_eq_true] at h3
      obtain ⟨x, hx, h4⟩ := h3
      simp only [Bool.and_eq_true, decide_eq_true_eq] at h4
      have := h.jump x hx h4.1
      omega
    · rw [if_neg h3]
      have h3' : ∀ x ∈ l, jumpsB x.op = true → x.a < (l.length : Int) := by
        intro x hx hj
        apply Int.not_le.1
        intro h4
        apply h3
        rw [List.any_eq_true]
        exact ⟨x, hx, by simp [hj, h4]⟩
      by_cases h5 : endOk l = true
      · rw [if_pos h5]
        exact ⟨fun _ => ⟨by omega, (firstErr_zero l).1 h2, h3', h5⟩, fun _ => rfl⟩
      · rw [if_neg h5]
        exact ⟨fun h => by omega, fun h => absurd h.last h5⟩
  · rw [if_pos h2]
    exact ⟨fun h => absurd h h2, fun h => absurd ((firstErr_zero l).2 h.ins) h2⟩

/-- where right code goes on behind a place -/
def aft (l : List InsR) (i : Nat) : List Nat :=
  match l[i]? with
  | none => []
  | some x => (if endsB x.op then [] else [i + 1]) ++ (if jumpsB x.op && (x.op == 14 || x.a != ((i : Int) + 1)) then [x.a.toNat] else [])

inductive Rch (l : List InsR) (S : List Nat) : Nat → Prop
  | base {i : Nat} : i ∈ S → Rch l S i
  | step {i j : Nat} : Rch l S i → j ∈ aft l i → Rch l S j

theorem jumps_ranged {x : InsR} (h : insErr x = 0) (hj : jumpsB x.op = true) : 0 ≤ x.a ∧ x.a ≤ 40 ∧ 0 ≤ x.b ∧ x.b ≤ 5 := by
  have hr : rangedB x = true := by
    unfold insErr at h
    split at h
    · omega
    split at h
    · omega
    split at h
    · omega
    · rename_i h3; simpa using h3
  simp only [jumpsB, Bool.and_eq_true, decide_eq_true_eq] at hj
  unfold rangedB at hr
  rw [if_neg (by omega), if_neg (by omega), if_neg (by omega)] at hr
  have : jumpsB x.op = true := by simp [jumpsB, hj]
  rw [this] at hr
  simpa [and_assoc] using hr

theorem aft_lt {l : List InsR} (h : FlowOk l) {i j : Nat} (hi : i < l.length) (hj : j ∈ aft l i) : j < l.length := by
  unfold aft at hj
  rw [List.getElem?_eq_getElem hi] at hj
  simp only [List.mem_append] at hj
  rcases hj with hj | hj
  · split at hj
    · cases hj
    · rename_i hne
      simp only [List.mem_singleton] at hj
      subst hj
      apply Nat.lt_of_le_of_ne (by omega)
      intro e
      have hl := h.last
      unfold endOk at hl
      rw [List.getLast?_eq_getElem?, show l.length - 1 = i by omega, List.getElem?_eq_getElem hi] at hl
      exact hne hl
  · split at hj
    · rename_i hc
      simp only [List.mem_singleton] at hj
      simp only [Bool.and_eq_true] at hc
      have h1 := h.jump _ (List.getElem_mem hi) hc.1
      have h2 := (jumps_ranged (h.ins _ (List.getElem_mem hi)) hc.1).1
      omega
    · cases hj

theorem rch_lt {l : List InsR} (h : FlowOk l) {S : List Nat} (hS : ∀ i ∈ S, i < l.length) {i : Nat} (hr : Rch l S i) : i < l.length := by
  induction hr with
  | base h1 => exact hS _ h1
  | step _ h2 ih => exact aft_lt h ih h2

/-- the searcher's state -/
structure Srch (l : List InsR) (S : List Nat) (seen : List Bool) (todo : List Nat) : Prop where
  len : seen.length = l.length
  lt : ∀ i ∈ todo, i < l.length
  right : ∀ i ∈ todo, Rch l S i
  sound : ∀ i : Nat, seen[i]? = some true → Rch l S i
  base : ∀ i ∈ S, seen[i]? = some true ∨ i ∈ todo
  step : ∀ i : Nat, seen[i]? = some true → ∀ j ∈ aft l i, seen[j]? = some true ∨ j ∈ todo

theorem Srch.start {l : List InsR} {S : List Nat} (hS : ∀ i ∈ S, i < l.length) : Srch l S (List.replicate l.length false) S :=
  ⟨by simp, hS, fun i h => .base h, fun i h => by simp [List.getElem?_replicate] at h, fun i h => Or.inr h, fun i h => by simp [List.getElem?_replicate] at h⟩

theorem Srch.skip {l : List InsR} {S : List Nat} {seen : List Bool} {todo : List Nat} {i : Nat} (h : Srch l S seen (todo ++ [i])) (hi : seen[i]? = some true) : Srch l S seen todo :=
  ⟨h.len, fun k hk => h.lt k (by simp [hk]), fun k hk => h.right k (by simp [hk]), h.sound, fun k hk => by
    rcases h.base k hk with h1 | h1
    · exact Or.inl h1
    · rcases List.mem_append.1 h1 with h2 | h2
      · exact Or.inr h2
      · simp at h2; subst h2; exact Or.inl hi, fun k hk j hj => by
    rcases h.step k hk j hj with h1 | h1
    · exact Or.inl h1
    · rcases List.mem_append.1 h1 with h2 | h2
      · exact Or.inr h2
      · simp at h2; subst h2; exact Or.inl hi⟩

theorem Srch.visit {l : List InsR} {S : List Nat} {seen : List Bool} {todo : List Nat} {i : Nat} (hl : FlowOk l) (h : Srch l S seen (todo ++ [i])) : Srch l S (seen.set i true) (todo ++ aft l i) := by
  have hi : i < l.length := h.lt i (by simp)
  have hr : Rch l S i := h.right i (by simp)
  have hset : ∀ k : Nat, (seen.set i true)[k]? = some true ↔ k = i ∨ seen[k]? = some true := by
    intro k
    rw [List.getElem?_set]
    by_cases e : i = k
    · subst e; simp [h.len, hi]
    · simp only [e, if_false]
      exact ⟨Or.inr, fun h1 => h1.resolve_left (fun q => e q.symm)⟩
  refine ⟨by simpa using h.len, ?_, ?_, ?_, ?_, ?_⟩
  · intro k hk
    rcases List.mem_append.1 hk with h1 | h1
    · exact h.lt k (by simp [h1])
    · exact aft_lt hl hi h1
  · intro k hk
    rcases List.mem_append.1 hk with h1 | h1
    · exact h.right k (by simp [h1])
    · exact .step hr h1
  · intro k hk
    rcases (hset k).1 hk with rfl | h1
    · exact hr
    · exact h.sound k h1
  · intro k hk
    rcases h.base k hk with h1 | h1
    · exact Or.inl ((hset k).2 (Or.inr h1))
    · rcases List.mem_append.1 h1 with h2 | h2
      · exact Or.inr (by simp [h2])
      · simp at h2; exact Or.inl ((hset k).2 (Or.inl h2))
  · intro k hk j hj
    rcases (hset k).1 hk with rfl | h1
    · exact Or.inr (by simp [hj])
    · rcases h.step k h1 j hj with h2 | h2
      · exact Or.inl ((hset j).2 (Or.inr h2))
      · rcases List.mem_append.1 h2 with h3 | h3
        · exact Or.inr (by simp [h3])
        · simp at h3; exact Or.inl ((hset j).2 (Or.inl h3))

theorem Srch.done {l : List InsR} {S : List Nat} {seen : List Bool} (h : Srch l S seen []) (i : Nat) : seen[i]? = some true ↔ Rch l S i := by
  refine ⟨h.sound i, fun hr => ?_⟩
  induction hr with
  | base h1 => rcases h.base _ h1 with h2 | h2; exact h2; cases h2
  | step _ h2 ih => rcases h.step _ ih _ h2 with h3 | h3; exact h3; cases h3

/-- how many are not seen yet -/
def unseen (s : List Bool) : Nat := s.countP (! ·)
theorem unseen_set : ∀ (s : List Bool) (i : Nat), s[i]? = some false → unseen (s.set i true) + 1 = unseen s
  | [], i, h => by simp at h
  | b :: s, 0, h => by
    simp at h; subst h; simp [unseen]
  | b :: s, i + 1, h => by
    have ih := unseen_set s i (by simpa using h)
    unfold unseen at *
    simp only [List.set_cons_succ, List.countP_cons]
    omega
theorem aft_len (l : List InsR) (i : Nat) : (aft l i).length ≤ 2 := by
  unfold aft
  split
  · simp
  · rw [List.length_append]; split <;> split <;> simp

/-- the same code behind a Nop -/
def shifted (x : InsR) : InsR := if jumpsB x.op then { x with a := x.a + 1 } else x
def nopR : InsR := ⟨1, 0, 0, [], [], []⟩
def ahead (l : List InsR) : List InsR := nopR :: l.map shifted

theorem shifted_op (x : InsR) : (shifted x).op = x.op := by unfold shifted; split <;> rfl
theorem nop_err : insErr nopR = 0 := by
  simp [insErr, nopR, needL, rangedB, jumpsB, typedB]

theorem shifted_err {x : InsR} (h : insErr x = 0) (ha : jumpsB x.op = true → x.a < 40) : insErr (shifted x) = 0 := by
  unfold shifted
  by_cases hj : jumpsB x.op = true
  · rw [if_pos hj]
    have hr := jumps_ranged h hj
    have ha := ha hj
    obtain ⟨op, a, b, ty, cl, nm⟩ := x
    simp only [jumpsB, Bool.and_eq_true, decide_eq_true_eq] at hj
    simp only at hr ha
    have hop : op = 12 ∨ op = 13 ∨ op = 14 := by omega
    rcases hop with rfl | rfl | rfl
    all_goals
      simp [insErr, needL, rangedB, jumpsB, typedB] at h ⊢
      split at h
      · omega
      · rename_i h1
        rw [if_neg (by simpa using h1), if_neg (by omega)]
  · rw [if_neg hj]; exact h

theorem ahead_ok {l : List InsR} (h : FlowOk l) (hl : l.length < 40) : FlowOk (ahead l) := by
  refine ⟨by simp [ahead]; omega, ?_, ?_, ?_⟩
  · intro x hx
    simp only [ahead, List.mem_cons, List.mem_map] at hx
    rcases hx with rfl | ⟨y, hy, rfl⟩
    · exact nop_err
    · exact shifted_err (h.ins y hy) (fun hj => by have := h.jump y hy hj; omega)
  · intro x hx hj
    simp only [ahead, List.mem_cons, List.mem_map] at hx
    rcases hx with rfl | ⟨y, hy, rfl⟩
    · simp [nopR, jumpsB] at hj
    · rw [shifted_op] at hj
      have := h.jump y hy hj
      unfold shifted
      rw [if_pos hj]
      simp [ahead]; omega
  · have hl := h.last
    unfold endOk at *
    cases hc : l.getLast? with
    | none => rw [hc] at hl; cases hl
    | some x =>
      rw [hc] at hl
      have : (ahead l).getLast? = some (shifted x) := by
        unfold ahead
        rw [List.getLast?_cons, List.getLast?_map, hc]; rfl
      rw [this]
      simpa [shifted_op] using hl

theorem aft_ahead_zero (l : List InsR) : aft (ahead l) 0 = [1] := by
  simp [aft, ahead, nopR, endsB, jumpsB]

theorem aft_ahead {l : List InsR} (h : FlowOk l) (i : Nat) : aft (ahead l) (i + 1) = (aft l i).map (· + 1) := by
  unfold aft
  have e : (ahead l)[i + 1]? = (l[i]?).map shifted := by simp [ahead]
  rw [e]
  cases hx : l[i]? with
  | none => rfl
  | some x =>
    have hm := List.mem_of_getElem? hx
    simp only [Option.map_some, shifted_op, List.map_append]
    congr 1
    · by_cases hh : endsB x.op = true <;> simp [hh]
    · by_cases hj : jumpsB x.op = true
      · have hr := jumps_ranged (h.ins x hm) hj
        have es : (shifted x).a = x.a + 1 := by unfold shifted; rw [if_pos hj]
        rw [es]
        have e2 : (x.a + 1 != ((i + 1 : Nat) : Int) + 1) = (x.a != (i : Int) + 1) := by
          rw [Bool.eq_iff_iff]; simp
        rw [e2]
        split
        · simp only [List.map_cons, List.map_nil, List.cons.injEq, and_true]; omega
        · simp
      · simp [hj]

theorem rch_ahead {l : List InsR} (h : FlowOk l) (j : Nat) : Rch (ahead l) [0] j ↔ j = 0 ∨ ∃ i, j = i + 1 ∧ Rch l [0] i := by
  constructor
  · intro hr
    induction hr with
    | base h1 => simp at h1; exact Or.inl h1
    | @step i j hr hj ih =>
      rcases ih with rfl | ⟨k, rfl, hk⟩
      · rw [aft_ahead_zero] at hj
        simp at hj
        exact Or.inr ⟨0, hj, .base (by simp)⟩
      · rw [aft_ahead h] at hj
        obtain ⟨m, hm, rfl⟩ := List.mem_map.1 hj
        exact Or.inr ⟨m, rfl, .step hk hm⟩
  · rintro (rfl | ⟨i, rfl, hr⟩)
    · exact .base (by simp)
    · induction hr with
      | base h1 =>
        simp at h1; subst h1
        exact .step (.base (by simp : 0 ∈ [0])) (by rw [aft_ahead_zero]; simp)
      | @step i j hr hj ih =>
        exact .step ih (by rw [aft_ahead h]; exact List.mem_map.2 ⟨j, hj, rfl⟩)

open Classical in
/-- the places that are come to -/
noncomputable def reachL (l : List InsR) : List Nat := (List.range l.length).filter (fun i => decide (Rch l [0] i))

theorem reach_ahead {l : List InsR} (h : FlowOk l) : reachL (ahead l) = 0 :: (reachL l).map (· + 1) := by
  unfold reachL
  have e : (ahead l).length = l.length + 1 := by simp [ahead]
  rw [e, List.range_succ_eq_map, List.filter_cons]
  rw [if_pos (by simp; exact (rch_ahead h 0).2 (Or.inl rfl))]
  congr 1
  rw [List.filter_map]
  congr 1
  apply List.filter_congr
  intro i _
  simp only [Function.comp]
  rw [Bool.eq_iff_iff]
  simp only [decide_eq_true_eq, Nat.succ_eq_add_one]
  rw [rch_ahead h]
  simp
end Go.Proofs.YtokomofjcnefaaaDoor
