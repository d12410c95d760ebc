/-
  Plain law (no program): what is left of code; completely reachable code without Nop stays as it is.
-/
import Derived.Test.YtimkingebjhemaaDoorPlain
namespace Go.Proofs.YtimkingebjhemaaDoor
set_option linter.unusedVariables false
set_option linter.unusedSimpArgs false

/-- which places stay: those that are come to, Nops apart -/
def keptL : List InsR → List Bool → List Bool
  | x :: l, b :: s => (b && (x.op != 1)) :: keptL l s
  | _, _ => []

def cnt (k : List Bool) (i : Nat) : Nat := (k.take i).countP (·)

/-- an instruction with its target anew -/
def movedR (k : List Bool) (x : InsR) : InsR := if jumpsB x.op then { x with a := (cnt k x.a.toNat : Int) } else x

/-- those that stay, of the first ones -/
def leftOf (k : List Bool) : List InsR → List Bool → List InsR
  | x :: l, b :: s => if b then movedR k x :: leftOf k l s else leftOf k l s
  | _, _ => []

theorem keptL_len : ∀ (l : List InsR) (s : List Bool), s.length = l.length → (keptL l s).length = l.length
  | [], _, _ => rfl
  | x :: l, [], h => by simp at h
  | x :: l, b :: s, h => by simp only [keptL, List.length_cons]; rw [keptL_len l s (by simpa using h)]

theorem keptL_get : ∀ (l : List InsR) (s : List Bool) (i : Nat) (x : InsR) (b : Bool), l[i]? = some x → s[i]? = some b → (keptL l s)[i]? = some (b && (x.op != 1))
  | [], _, i, x, b, h, _ => by simp at h
  | y :: l, [], i, x, b, _, h => by simp at h
  | y :: l, c :: s, 0, x, b, h1, h2 => by simp at h1 h2; subst h1; subst h2; simp [keptL]
  | y :: l, c :: s, i + 1, x, b, h1, h2 => by
    simp only [keptL, List.getElem?_cons_succ] at *
    exact keptL_get l s i x b h1 h2

theorem cnt_zero (k : List Bool) : cnt k 0 = 0 := by simp [cnt]
theorem cnt_succ (k : List Bool) (i : Nat) (b : Bool) (h : k[i]? = some b) : cnt k (i + 1) = cnt k i + (if b then 1 else 0) := by
  unfold cnt
  obtain ⟨hi, hb⟩ := List.getElem?_eq_some_iff.1 h
  rw [List.take_succ_eq_append_getElem hi, List.countP_append, hb]
  cases b <;> simp
theorem cnt_le (k : List Bool) (i : Nat) : cnt k i ≤ i := by
  unfold cnt
  have := List.countP_le_length (p := (· : Bool → Bool)) (l := k.take i)
  rw [List.length_take] at this
  omega
theorem cnt_ge (k : List Bool) {i : Nat} (h : k.length ≤ i) : cnt k i = cnt k k.length := by
  unfold cnt; rw [List.take_of_length_le h, List.take_length]

theorem leftOf_len (k : List Bool) : ∀ (l : List InsR) (s : List Bool), s.length = l.length → (leftOf k l s).length = s.countP (·)
  | [], [], _ => rfl
  | [], b :: s, h => by simp at h
  | x :: l, [], h => by simp at h
  | x :: l, b :: s, h => by
    have ih := leftOf_len k l s (by simpa using h)
    cases b <;> simp [leftOf, ih]

theorem leftOf_snoc (k : List Bool) : ∀ (l : List InsR) (s : List Bool) (x : InsR) (b : Bool), s.length = l.length → leftOf k (l ++ [x]) (s ++ [b]) = leftOf k l s ++ (if b then [movedR k x] else [])
  | [], [], x, b, _ => by cases b <;> simp [leftOf]
  | [], b :: s, _, _, h => by simp at h
  | x :: l, [], _, _, h => by simp at h
  | y :: l, c :: s, x, b, h => by
    have ih := leftOf_snoc k l s x b (by simpa using h)
    cases c <;> simp [leftOf, ih]

theorem leftOf_take (k : List Bool) (l : List InsR) (s : List Bool) (i : Nat) (x : InsR) (b : Bool) (h : s.length = l.length) (hx : l[i]? = some x) (hb : s[i]? = some b) :
    leftOf k (l.take (i + 1)) (s.take (i + 1)) = leftOf k (l.take i) (s.take i) ++ (if b then [movedR k x] else []) := by
  obtain ⟨h1, e1⟩ := List.getElem?_eq_some_iff.1 hx
  obtain ⟨h2, e2⟩ := List.getElem?_eq_some_iff.1 hb
  rw [List.take_succ_eq_append_getElem h1, List.take_succ_eq_append_getElem h2, e1, e2]
  exact leftOf_snoc k _ _ x b (by simp [h])

theorem cnt_all {k : List Bool} (h : ∀ b ∈ k, b = true) {i : Nat} (hi : i ≤ k.length) : cnt k i = i := by
  unfold cnt
  have : (k.take i).countP (·) = (k.take i).length := List.countP_eq_length.2 (fun b hb => h b (List.mem_of_mem_take hb))
  rw [this, List.length_take]; omega

theorem leftOf_all (k : List Bool) : ∀ (l : List InsR) (s : List Bool), s.length = l.length → (∀ b ∈ s, b = true) → leftOf k l s = l.map (movedR k)
  | [], [], _, _ => rfl
  | [], b :: s, h, _ => by simp at h
  | x :: l, [], h, _ => by simp at h
  | x :: l, b :: s, h, hb => by
    have := hb b (by simp)
    subst this
    simp [leftOf, leftOf_all k l s (by simpa using h) (fun c hc => hb c (by simp [hc]))]

theorem movedR_all {l : List InsR} (h : FlowOk l) {k : List Bool} (hk : k.length = l.length) (ha : ∀ b ∈ k, b = true) : leftOf k l k = l := by
  rw [leftOf_all k l k hk ha]
  conv => rhs; rw [← List.map_id l]
  apply List.map_congr_left
  intro x hx
  unfold movedR
  by_cases hj : jumpsB x.op = true
  · rw [if_pos hj]
    have h1 := h.jump x hx hj
    have h2 := (jumps_ranged (h.ins x hx) hj).1
    rw [cnt_all ha (by omega)]
    obtain ⟨op, a, b, ty, cl, nm⟩ := x
    simp only at h2 ⊢
    rw [Int.toNat_of_nonneg h2]; rfl
  · rw [if_neg hj]; rfl

/-- the search's answer as a list of Bools, and what is left by it -/
structure Seen (l : List InsR) (seen : List Bool) : Prop where
  len : seen.length = l.length
  iff : ∀ i : Nat, seen[i]? = some true ↔ Rch l [0] i

theorem reachL_count {l : List InsR} {seen : List Bool} (h : Seen l seen) : (reachL l).length = seen.countP (·) := by
  classical
  unfold reachL
  rw [← List.countP_eq_length_filter]
  have key : ∀ (n : Nat) (s : List Bool), s.length = n → (List.range n).countP (fun i => decide (s[i]? = some true)) = s.countP (·) := by
    intro n
    induction n with
    | zero => intro s hs; simp [List.eq_nil_of_length_eq_zero hs]
    | succ n ih =>
      intro s hs
      cases s with
      | nil => simp at hs
      | cons b s =>
        rw [List.range_succ_eq_map, List.countP_cons, List.countP_map, List.countP_cons]
        have := ih s (by simpa using hs)
        simp only [Function.comp_def, List.getElem?_cons_succ, Nat.succ_eq_add_one] at this ⊢
        rw [this]
        cases b <;> simp
  rw [← key l.length seen h.len]
  apply List.countP_congr
  intro i _
  simp [h.iff i]

theorem count_all {k : List Bool} (h : k.countP (·) = k.length) : ∀ b ∈ k, b = true := by
  have := List.countP_eq_length.1 h
  intro b hb
  simpa using this b hb

theorem kept_count_le : ∀ (l : List InsR) (s : List Bool), s.length = l.length → (keptL l s).countP (·) ≤ s.countP (·)
  | [], s, _ => by simp [keptL]
  | x :: l, [], h => by simp at h
  | x :: l, b :: s, h => by
    have ih := kept_count_le l s (by simpa using h)
    simp only [keptL, List.countP_cons]
    cases b <;> simp <;> (try split) <;> omega

theorem kept_nonop : ∀ (l : List InsR) (s : List Bool), s.length = l.length → (∀ x ∈ l, x.op ≠ 1) → keptL l s = s
  | [], [], _, _ => rfl
  | [], b :: s, h, _ => by simp at h
  | x :: l, [], h, _ => by simp at h
  | x :: l, b :: s, h, hn => by
    have h1 := hn x (by simp)
    simp [keptL, h1, kept_nonop l s (by simpa using h) (fun y hy => hn y (by simp [hy]))]

theorem kept_nop_lt {l : List InsR} {s : List Bool} (h : s.length = l.length) {i : Nat} {x : InsR} (hx : l[i]? = some x) (h1 : x.op = 1) : (leftOf (keptL l s) l (keptL l s)).length < l.length := by
  have hl := keptL_len l s h
  rw [leftOf_len _ _ _ hl]
  have hi : i < l.length := (List.getElem?_eq_some_iff.1 hx).1
  have hb := keptL_get l s i x _ hx (List.getElem?_eq_getElem (by omega))
  rw [h1] at hb
  have hm : false ∈ keptL l s := by
    have := List.mem_of_getElem? hb
    simpa using this
  have hle := List.countP_le_length (p := (· : Bool → Bool)) (l := keptL l s)
  rcases Nat.lt_or_ge ((keptL l s).countP (·)) l.length with h2 | h2
  · exact h2
  · exfalso
    have := count_all (k := keptL l s) (by omega) false hm
    cases this

/-- the law, no program in sight: no Nop: what is left is the code itself exactly if all is come to -/
theorem trim_same {l : List InsR} {s : List Bool} (h : FlowOk l) (hs : Seen l s) (hn : ∀ x ∈ l, x.op ≠ 1) :
    ((reachL l).length = l.length ∧ leftOf (keptL l s) l (keptL l s) = l) ∨ ((reachL l).length ≠ l.length ∧ (leftOf (keptL l s) l (keptL l s)).length ≠ l.length) := by
  have hc := reachL_count hs
  have hk := kept_nonop l s hs.len hn
  rw [hk]
  by_cases e : (reachL l).length = l.length
  · left
    refine ⟨e, movedR_all h hs.len (count_all (by rw [← hc, e, hs.len]))⟩
  · right
    refine ⟨e, ?_⟩
    rw [leftOf_len _ _ _ hs.len, ← hc]
    exact e
end Go.Proofs.YtimkingebjhemaaDoor
