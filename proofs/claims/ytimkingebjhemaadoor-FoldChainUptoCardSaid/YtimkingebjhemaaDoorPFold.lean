/-
  Plain law (no program): sums of pushed constants, as code: right, wholly reachable; what stays without the Nops.
-/
import Derived.Test.YtimkingebjhemaaDoorPlain
import Derived.Test.YtimkingebjhemaaDoorPTrim
namespace Go.Proofs.YtimkingebjhemaaDoor
set_option linter.unusedVariables false
set_option linter.unusedSimpArgs false
open Go.RowKit

def pushI (a : Int) : InsR := ⟨2, a, 0, [73], [], []⟩
def addI : InsR := ⟨9, 1, 0, [73], [], []⟩
def giveI : InsR := ⟨27, 0, 0, [], [], []⟩
/-- a sum, not folded -/
def pairs (as : List Int) : List InsR := as.flatMap (fun a => [pushI a, addI])
def chain (s : Int) (as : List Int) : List InsR := pushI s :: (pairs as ++ [giveI])
/-- its first addition folded -/
def folded (s a : Int) (as : List Int) : List InsR := pushI (wrap32 (s + a)) :: nopR :: nopR :: (pairs as ++ [giveI])

theorem pairs_cons (a : Int) (as : List Int) : pairs (a :: as) = pushI a :: addI :: pairs as := rfl
theorem pairs_len : ∀ as : List Int, (pairs as).length = 2 * as.length
  | [] => rfl
  | a :: as => by rw [pairs_cons, List.length_cons, List.length_cons, pairs_len as, List.length_cons]; omega
theorem chain_len (s : Int) (as : List Int) : (chain s as).length = 2 * as.length + 2 := by simp [chain, pairs_len]
theorem folded_len (s a : Int) (as : List Int) : (folded s a as).length = (chain s (a :: as)).length := by simp [folded, chain, pairs_len]; omega

/-- the kinds of instructions met -/
def Smp (x : InsR) : Prop := (∃ a, x = pushI a ∧ wrap32 a = a) ∨ x = addI ∨ x = nopR
theorem push_err {a : Int} (h : wrap32 a = a) : insErr (pushI a) = 0 := by
  simp [insErr, pushI, needL, rangedB, typedB, numB, h]
theorem add_err : insErr addI = 0 := by simp [insErr, addI, needL, rangedB, typedB, numB]
theorem give_err : insErr giveI = 0 := by simp [insErr, giveI, needL, rangedB, typedB, jumpsB]
theorem smp_err {x : InsR} (h : Smp x) : insErr x = 0 := by
  rcases h with ⟨a, rfl, h⟩ | rfl | rfl
  · exact push_err h
  · exact add_err
  · exact nop_err
theorem smp_calm {x : InsR} (h : Smp x) : jumpsB x.op = false ∧ endsB x.op = false := by
  rcases h with ⟨a, rfl, _⟩ | rfl | rfl <;> exact ⟨rfl, rfl⟩
theorem pairs_smp : ∀ {as : List Int}, (∀ a ∈ as, wrap32 a = a) → ∀ x ∈ pairs as, Smp x
  | [], _, x, h => by simp [pairs] at h
  | a :: as, ha, x, h => by
    rw [pairs_cons] at h
    simp only [List.mem_cons] at h
    rcases h with rfl | rfl | h
    · exact Or.inl ⟨a, rfl, ha a (by simp)⟩
    · exact Or.inr (Or.inl rfl)
    · exact pairs_smp (fun b hb => ha b (by simp [hb])) x h

theorem simple_ok {l : List InsR} (h : ∀ x ∈ l, Smp x) (hl : l.length < 40) : FlowOk (l ++ [giveI]) := by
  refine ⟨by simp; omega, fun x hx => ?_, fun x hx hj => ?_, by simp [endOk, giveI, endsB]⟩
  · rcases List.mem_append.1 hx with h1 | h1
    · exact smp_err (h x h1)
    · rw [List.mem_singleton.1 h1]; exact give_err
  · rcases List.mem_append.1 hx with h1 | h1
    · rw [(smp_calm (h x h1)).1] at hj; cases hj
    · rw [List.mem_singleton.1 h1] at hj; cases hj
theorem simple_reach {l : List InsR} (h : ∀ x ∈ l, Smp x) : ∀ i, i < (l ++ [giveI]).length → Rch (l ++ [giveI]) [0] i
  | 0, _ => .base (by simp)
  | i + 1, hi => by
    have hl : i < l.length := by simp at hi; omega
    refine .step (simple_reach h i (by omega)) ?_
    have hx : (l ++ [giveI])[i]? = some l[i] := by rw [List.getElem?_append_left hl]; exact List.getElem?_eq_getElem hl
    have hs := smp_calm (h l[i] (List.getElem_mem hl))
    unfold aft
    rw [hx]
    simp [hs.1, hs.2]
theorem simple_seen {l : List InsR} (h : ∀ x ∈ l, Smp x) {s : List Bool} (hs : Seen (l ++ [giveI]) s) : ∀ b ∈ s, b = true := by
  intro b hb
  obtain ⟨i, hi, rfl⟩ := List.getElem_of_mem hb
  have := (hs.iff i).2 (simple_reach h i (by rw [← hs.len]; exact hi))
  rw [List.getElem?_eq_getElem hi] at this
  exact Option.some.inj this
theorem left_filter (k : List Bool) : ∀ (l : List InsR) (s : List Bool), s.length = l.length → (∀ b ∈ s, b = true) → (∀ x ∈ l, jumpsB x.op = false) → leftOf k l (keptL l s) = l.filter (fun x => x.op != 1)
  | [], _, _, _, _ => by simp [keptL, leftOf]
  | x :: l, [], h, _, _ => by simp at h
  | x :: l, b :: s, h, hb, hj => by
    have ih := left_filter k l s (by simpa using h) (fun c hc => hb c (by simp [hc])) (fun y hy => hj y (by simp [hy]))
    have hbt : b = true := hb b (by simp)
    have hx := hj x (by simp)
    subst hbt
    simp only [keptL, leftOf, Bool.true_and, ih, List.filter_cons]
    cases hn : x.op != 1 with
    | true => simp [movedR, hx]
    | false => simp
theorem simple_trim {l : List InsR} (h : ∀ x ∈ l, Smp x) {s : List Bool} (hs : Seen (l ++ [giveI]) s) :
    leftOf (keptL (l ++ [giveI]) s) (l ++ [giveI]) (keptL (l ++ [giveI]) s) = l.filter (fun x => x.op != 1) ++ [giveI] := by
  rw [left_filter _ _ _ hs.len (simple_seen h hs) (fun x hx => by
    rcases List.mem_append.1 hx with h1 | h1
    · exact (smp_calm (h x h1)).1
    · rw [List.mem_singleton.1 h1]; rfl), List.filter_append]
  rfl
theorem pairs_filter : ∀ as : List Int, (pairs as).filter (fun x => x.op != 1) = pairs as
  | [] => rfl
  | a :: as => by rw [pairs_cons, List.filter_cons, List.filter_cons, pairs_filter as]; rfl

theorem wrap32_idem (a : Int) : wrap32 (wrap32 a) = wrap32 a := by unfold wrap32; omega
theorem chain_smp {s : Int} {as : List Int} (hs : wrap32 s = s) (ha : ∀ a ∈ as, wrap32 a = a) : ∀ x ∈ pushI s :: pairs as, Smp x := by
  intro x hx
  rcases List.mem_cons.1 hx with rfl | hx
  · exact Or.inl ⟨s, rfl, hs⟩
  · exact pairs_smp ha x hx
theorem folded_smp {s a : Int} {as : List Int} (ha : ∀ a ∈ as, wrap32 a = a) : ∀ x ∈ pushI (wrap32 (s + a)) :: nopR :: nopR :: pairs as, Smp x := by
  intro x hx
  simp only [List.mem_cons] at hx
  rcases hx with rfl | rfl | rfl | hx
  · exact Or.inl ⟨_, rfl, wrap32_idem _⟩
  · exact Or.inr (Or.inr rfl)
  · exact Or.inr (Or.inr rfl)
  · exact pairs_smp ha x hx
theorem chain_ok {s : Int} {as : List Int} (hs : wrap32 s = s) (ha : ∀ a ∈ as, wrap32 a = a) (hl : as.length ≤ 14) : FlowOk (chain s as) :=
  simple_ok (l := pushI s :: pairs as) (chain_smp hs ha) (by rw [List.length_cons, pairs_len]; omega)
theorem folded_ok {s a : Int} {as : List Int} (ha : ∀ a ∈ as, wrap32 a = a) (hl : as.length ≤ 13) : FlowOk (folded s a as) :=
  simple_ok (l := pushI (wrap32 (s + a)) :: nopR :: nopR :: pairs as) (folded_smp ha) (by simp only [List.length_cons, pairs_len]; omega)
theorem chain_trim {s : Int} {as : List Int} (hs : wrap32 s = s) (ha : ∀ a ∈ as, wrap32 a = a) {b : List Bool} (hb : Seen (chain s as) b) : leftOf (keptL (chain s as) b) (chain s as) (keptL (chain s as) b) = chain s as := by
  have h := simple_trim (l := pushI s :: pairs as) (chain_smp hs ha) hb
  refine h.trans ?_
  rw [List.filter_cons, pairs_filter]
  rfl
theorem folded_trim {s a : Int} {as : List Int} (ha : ∀ a ∈ as, wrap32 a = a) {b : List Bool} (hb : Seen (folded s a as) b) : leftOf (keptL (folded s a as) b) (folded s a as) (keptL (folded s a as) b) = chain (wrap32 (s + a)) as := by
  have h := simple_trim (l := pushI (wrap32 (s + a)) :: nopR :: nopR :: pairs as) (folded_smp ha) hb
  refine h.trans ?_
  rw [List.filter_cons, List.filter_cons, List.filter_cons, pairs_filter]
  rfl
end Go.Proofs.YtimkingebjhemaaDoor
