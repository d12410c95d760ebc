/-
  Plain law (no program): handles as trees, their sizes, what their types are; what method types become where one argument is put in, changed, dropped, or all are permuted.
-/
import Derived.Test.YtkobgmacoakelaaDoorPlain
import Derived.RowKit
namespace Go.Proofs.YtkobgmacoakelaaDoor
set_option linter.unusedVariables false
set_option linter.unusedSimpArgs false
open Go.Lib Go.RowKit

open Classical in
/-- what a method type's text is made of -/
noncomputable def methOf (m : List UInt8) : Option (List (List UInt8) × List UInt8) :=
  if h : ∃ p : List (List UInt8) × List UInt8, MethodOk m p.1 p.2 then some h.choose else none

theorem methOf_some {m g : List UInt8} {A : List (List UInt8)} (h : MethodOk m A g) : methOf m = some (A, g) := by
  have hex : ∃ p : List (List UInt8) × List UInt8, MethodOk m p.1 p.2 := ⟨(A, g), h⟩
  unfold methOf
  rw [dif_pos hex]
  obtain ⟨h1, h2⟩ := method_uniq hex.choose_spec h
  exact congrArg some (Prod.ext h1 h2)
theorem methOf_none {m : List UInt8} (h : ∀ A g, ¬ MethodOk m A g) : methOf m = none := by
  unfold methOf
  rw [dif_neg (fun ⟨p, hp⟩ => h p.1 p.2 hp)]
theorem methOf_ok {m g : List UInt8} {A : List (List UInt8)} (h : methOf m = some (A, g)) : MethodOk m A g := by
  unfold methOf at h
  split at h
  · rename_i hex
    have := hex.choose_spec
    rw [Option.some.inj h] at this
    exact this
  · cases h

/-- the text of a method type -/
def methT (A : List (List UInt8)) (g : List UInt8) : List UInt8 := 40 :: (A.flatten ++ 41 :: g)

/-- a method type, its args changed as r says -/
noncomputable def chF (m : List UInt8) (r : List (List UInt8) → Int × List (List UInt8)) : Int × List UInt8 :=
  match methOf m with
  | none => (1, [])
  | some (A, g) => if (r A).1 ≠ 0 then ((r A).1, []) else if 5 < (r A).2.length then (4, []) else (0, methT (r A).2 g)
def dropR (i : Int) (A : List (List UInt8)) : Int × List (List UInt8) := if i < 0 ∨ (A.length : Int) ≤ i then (2, []) else (0, A.eraseIdx i.toNat)
open Classical in
noncomputable def putR (i : Int) (t : List UInt8) (A : List (List UInt8)) : Int × List (List UInt8) :=
  if i < 0 ∨ (A.length : Int) < i then (2, []) else if ¬ TypeOk t then (1, []) else (0, A.take i.toNat ++ t :: A.drop i.toNat)
open Classical in
noncomputable def changeR (i : Int) (t : List UInt8) (A : List (List UInt8)) : Int × List (List UInt8) :=
  if i < 0 ∨ (A.length : Int) ≤ i then (2, []) else if ¬ TypeOk t then (1, []) else (0, A.set i.toNat t)
/-- what is wrong with the places, from the first one on -/
def permE (B : List (List UInt8)) : List Int → List (List UInt8) → Int
  | [], _ => 0
  | _ :: _, [] => 0
  | k :: ks, t :: ts => if k < 0 ∨ (B.length : Int) ≤ k then 2 else if B[k.toNat]? ≠ some t then 7 else permE B ks ts
noncomputable def permR (at_ : List Int) (all : List UInt8) (A : List (List UInt8)) : Int × List (List UInt8) :=
  match methOf all with
  | none => (1, [])
  | some (B, _) => if at_.length ≠ A.length then (8, []) else (permE B at_ A, B)
noncomputable def dropF (m : List UInt8) (i : Int) : Int × List UInt8 := chF m (dropR i)
noncomputable def putF (m : List UInt8) (i : Int) (t : List UInt8) : Int × List UInt8 := chF m (putR i t)
noncomputable def changeF (m : List UInt8) (i : Int) (t : List UInt8) : Int × List UInt8 := chF m (changeR i t)
noncomputable def permF (m : List UInt8) (at_ : List Int) (all : List UInt8) : Int × List UInt8 := chF m (permR at_ all)
/-- what the args of the second one are -/
noncomputable def filledF (m second : List UInt8) (i : Int) (many : Nat) : Int × List (List UInt8) :=
  match methOf m with
  | none => (1, [])
  | some (A, _) => if i < 0 ∨ (A.length : Int) ≤ i then (2, []) else match methOf second with
    | none => (1, [])
    | some (T, g) => if T.length ≠ many then (8, []) else if A[i.toNat]? ≠ some g then (7, []) else (0, T)

/-- a handle: a tree, with the places of its two slices -/
inductive Hd where
  | mk (kind : Int) (ty : List UInt8) (a : Int) (pos : List Int) (pa : Option Addr) (pc : Nat) (subs : List Hd) (sa : Option Addr) (sc : Nat)
def Hd.kind : Hd → Int | .mk k _ _ _ _ _ _ _ _ => k
def Hd.ty : Hd → List UInt8 | .mk _ t _ _ _ _ _ _ _ => t
def Hd.a : Hd → Int | .mk _ _ a _ _ _ _ _ _ => a
def Hd.pos : Hd → List Int | .mk _ _ _ p _ _ _ _ _ => p
def Hd.pa : Hd → Option Addr | .mk _ _ _ _ p _ _ _ _ => p
def Hd.pc : Hd → Nat | .mk _ _ _ _ _ c _ _ _ => c
def Hd.subs : Hd → List Hd | .mk _ _ _ _ _ _ s _ _ => s
def Hd.sa : Hd → Option Addr | .mk _ _ _ _ _ _ _ s _ => s
def Hd.sc : Hd → Nat | .mk _ _ _ _ _ _ _ _ c => c

mutual
def Hd.size : Hd → Nat
  | .mk _ _ _ _ _ _ subs _ _ => 1 + sizes subs
def sizes : List Hd → Nat
  | [] => 0
  | h :: t => h.size + sizes t
end
theorem size_pos : ∀ h : Hd, 1 ≤ h.size
  | .mk _ _ _ _ _ _ _ _ _ => by rw [Hd.size]; omega
theorem sizes_snoc : ∀ (l : List Hd) (h : Hd), sizes (l ++ [h]) = sizes l + h.size
  | [], h => by simp [sizes]
  | x :: l, h => by rw [List.cons_append, sizes, sizes, sizes_snoc l h]; omega
theorem sizes_take : ∀ (l : List Hd) (k : Nat), sizes (l.take k) ≤ sizes l
  | [], k => by simp
  | x :: l, 0 => by simp [sizes]
  | x :: l, k + 1 => by rw [List.take_succ_cons, sizes, sizes]; have := sizes_take l k; omega
theorem sizes_succ {l : List Hd} {k : Nat} {h : Hd} (hx : l[k]? = some h) : sizes (l.take (k + 1)) = sizes (l.take k) + h.size := by
  have hk : k < l.length := (List.getElem?_eq_some_iff.1 hx).1
  rw [List.take_add_one, hx]
  exact sizes_snoc _ _
theorem sizes_mem {l : List Hd} {h : Hd} (hm : h ∈ l) : h.size ≤ sizes l := by
  obtain ⟨k, hk⟩ := List.getElem?_of_mem hm
  have h1 := sizes_succ hk
  have h2 := sizes_take l (k + 1)
  omega

def numT (t : List UInt8) : Bool := t == [73] || t == [74]
def nsubs (k : Int) : Nat := if k = 4 ∨ k = 6 then 1 else if k = 5 ∨ k = 7 then 2 else 0
/-- the args of a leaf -/
def leafA (k : Int) (t : List UInt8) (a : Int) : List (List UInt8) :=
  if k = 1 then [] else if k = 2 ∨ a = 12 then [t] else if 9 ≤ a ∧ a ≤ 11 then [t, [73]] else [t, t]
def leafF (k : Int) (t : List UInt8) (a : Int) : Int × List UInt8 :=
  if (!numT t) || (k == 3 && (decide (a < 1) || decide (12 < a))) then (1, []) else if k == 1 && (t == [73] && a != wrap32 a) then (2, []) else (0, methT (leafA k t a) t)
/-- what is made of the types of the subs -/
noncomputable def combF (k : Int) (t : List UInt8) (a : Int) (pos : List Int) (ts : List (List UInt8)) : Int × List UInt8 :=
  if k = 4 then putF (ts.getD 0 []) a t else if k = 6 then permF (ts.getD 0 []) pos t
  else if k = 5 then (if (filledF (ts.getD 0 []) (ts.getD 1 []) a 0).1 ≠ 0 then ((filledF (ts.getD 0 []) (ts.getD 1 []) a 0).1, []) else dropF (ts.getD 0 []) a)
  else (if (filledF (ts.getD 0 []) (ts.getD 1 []) a 1).1 ≠ 0 then ((filledF (ts.getD 0 []) (ts.getD 1 []) a 1).1, []) else changeF (ts.getD 0 []) a ((filledF (ts.getD 0 []) (ts.getD 1 []) a 1).2.getD 0 []))
/-- the first error of some, or all texts -/
def allF : List (Int × List UInt8) → Int × List (List UInt8)
  | [] => (0, [])
  | r :: l => if r.1 ≠ 0 then (r.1, []) else if (allF l).1 ≠ 0 then ((allF l).1, []) else (0, r.2 :: (allF l).2)
mutual
noncomputable def Hd.typed : Hd → Int × List UInt8
  | .mk k t a pos _ _ subs _ _ =>
    if k < 1 ∨ 7 < k then (1, []) else if subs.length ≠ nsubs k then (8, []) else if nsubs k = 0 then leafF k t a
    else if (allF (typeds subs)).1 ≠ 0 then ((allF (typeds subs)).1, []) else combF k t a pos (allF (typeds subs)).2
noncomputable def typeds : List Hd → List (Int × List UInt8)
  | [] => []
  | h :: t => h.typed :: typeds t
end
theorem typeds_map : ∀ l : List Hd, typeds l = l.map Hd.typed
  | [] => by simp [typeds]
  | h :: t => by rw [typeds, typeds_map t]; rfl
theorem allF_ok : ∀ {l : List (Int × List UInt8)}, (∀ r ∈ l, r.1 = 0) → allF l = (0, l.map (·.2))
  | [], _ => rfl
  | r :: l, h => by
    have h1 := h r (by simp)
    have h2 := allF_ok (l := l) (fun x hx => h x (by simp [hx]))
    simp [allF, h1, h2]
theorem allF_bad : ∀ {l : List (Int × List UInt8)} {k : Nat} {r : Int × List UInt8}, l[k]? = some r → (∀ x ∈ l.take k, x.1 = 0) → r.1 ≠ 0 → allF l = (r.1, [])
  | [], k, r, h, _, _ => by simp at h
  | x :: l, 0, r, h, _, h0 => by
    simp only [List.getElem?_cons_zero, Option.some.injEq] at h
    subst h
    simp [allF, h0]
  | x :: l, k + 1, r, h, ht, h0 => by
    have h1 := ht x (by simp)
    have h2 := allF_bad (l := l) (k := k) (by simpa using h) (fun y hy => ht y (by simp [hy])) h0
    simp [allF, h1, h2, h0]
theorem allF_zero : ∀ {l : List (Int × List UInt8)}, (allF l).1 = 0 → ∀ r ∈ l, r.1 = 0
  | [], _, r, h => by simp at h
  | x :: l, h0, r, h => by
    unfold allF at h0
    by_cases hx : x.1 = 0
    · rw [if_neg (by simp [hx])] at h0
      by_cases hl : (allF l).1 = 0
      · rcases List.mem_cons.1 h with rfl | h
        · exact hx
        · exact allF_zero hl r h
      · rw [if_pos hl] at h0
        exact absurd h0 hl
    · rw [if_pos hx] at h0
      exact absurd h0 hx
theorem typed_eq (h : Hd) : h.typed = if h.kind < 1 ∨ 7 < h.kind then (1, []) else if h.subs.length ≠ nsubs h.kind then (8, []) else if nsubs h.kind = 0 then leafF h.kind h.ty h.a
    else if (allF (h.subs.map Hd.typed)).1 ≠ 0 then ((allF (h.subs.map Hd.typed)).1, []) else combF h.kind h.ty h.a h.pos (allF (h.subs.map Hd.typed)).2 := by
  cases h
  rw [Hd.typed]
  simp only [typeds_map]
  rfl
theorem size_eq (h : Hd) : h.size = 1 + sizes h.subs := by cases h; rw [Hd.size]; rfl
/-- the subs of a right handle are right -/
theorem typed_subs {h : Hd} (h0 : h.typed.1 = 0) : ∀ s ∈ h.subs, s.typed.1 = 0 := by
  rw [typed_eq] at h0
  intro s hs
  split at h0
  · exact absurd h0 (by decide)
  split at h0
  · exact absurd h0 (by decide)
  split at h0
  · rename_i h1 h2
    have : h.subs = [] := List.eq_nil_of_length_eq_zero (by omega)
    rw [this] at hs
    simp at hs
  split at h0
  · rename_i h1
    exact absurd h0 h1
  · rename_i h1
    exact allF_zero (by simpa using h1) s.typed (List.mem_map.2 ⟨s, hs, rfl⟩)
end Go.Proofs.YtkobgmacoakelaaDoor
