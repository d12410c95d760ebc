/-
  Plain law (no program): classes, and what is wrong with one.
-/
import Derived.Test.YtokomofjcnefaaaDoorPFlow
namespace Go.Proofs.YtokomofjcnefaaaDoor
set_option linter.unusedVariables false
set_option linter.unusedSimpArgs false
open Go.Lib Go.RowKit

structure FieldR where
  nm : List UInt8
  ty : List UInt8
structure HandR where
  lo : Int
  hi : Int
  at_ : Int
  cl : List UInt8
structure MethR where
  nm : List UInt8
  ty : List UInt8
  stat : Bool
  abst : Bool
  priv : Bool
  loc : Int
  code : List InsR
  hs : List HandR
structure ClassR where
  nm : List UInt8
  sup : List UInt8
  faces : List (List UInt8)
  face : Bool
  fields : List FieldR
  meths : List MethR

/-- the first of n numbers that is not zero -/
noncomputable def firstNZ (f : Nat → Int) : Nat → Int
  | 0 => 0
  | n + 1 => if firstNZ f n = 0 then f n else firstNZ f n

theorem firstNZ_zero (f : Nat → Int) : ∀ n, firstNZ f n = 0 ↔ ∀ j, j < n → f j = 0
  | 0 => by simp [firstNZ]
  | n + 1 => by
    have ih := firstNZ_zero f n
    unfold firstNZ
    by_cases h : firstNZ f n = 0
    · rw [if_pos h]
      constructor
      · intro h1 j hj
        by_cases e : j = n
        · rw [e]; exact h1
        · exact ih.1 h j (by omega)
      · intro h1; exact h1 n (by omega)
    · rw [if_neg h]
      exact ⟨fun h1 => absurd h1 h, fun h1 => absurd (ih.2 (fun j hj => h1 j (by omega))) h⟩
theorem firstNZ_at {f : Nat → Int} {k : Nat} (h0 : ∀ j, j < k → f j = 0) (hk : f k ≠ 0) : ∀ n, k < n → firstNZ f n = f k
  | 0, h => by omega
  | n + 1, h => by
    unfold firstNZ
    by_cases e : k = n
    · subst e
      rw [if_pos ((firstNZ_zero f k).2 h0)]
    · have h1 := firstNZ_at h0 hk n (by omega)
      rw [if_neg (by rw [h1]; exact hk), h1]
theorem firstNZ_cong {f g : Nat → Int} : ∀ n, (∀ j, j < n → f j = g j) → firstNZ f n = firstNZ g n
  | 0, _ => rfl
  | n + 1, h => by
    unfold firstNZ
    rw [firstNZ_cong n (fun j hj => h j (by omega)), h n (by omega)]

open Classical in
/-- what is wrong with the text of a method's type -/
noncomputable def mtyErr (t : List UInt8) : Int := if ∃ A g, MethodOk t A g then 0 else 1
open Classical in
/-- the number of the args of a right one's type -/
noncomputable def argsN (t : List UInt8) : Int := if h : ∃ A g, MethodOk t A g then (h.choose.length : Int) else 0
theorem argsN_of {t g : List UInt8} {A : List (List UInt8)} (h : MethodOk t A g) : argsN t = A.length := by
  have hx : ∃ A g, MethodOk t A g := ⟨A, g, h⟩
  unfold argsN
  rw [dif_pos hx]
  obtain ⟨g', h2⟩ := hx.choose_spec
  rw [(method_uniq h2 h).1]

noncomputable def argsOf (m : MethR) : Int := if mtyErr m.ty ≠ 0 then 0 else if m.stat then argsN m.ty else argsN m.ty + 1

def hand1 (n : Int) (h : HandR) : Int := if h.lo < 0 ∨ h.hi ≤ h.lo ∨ n < h.hi ∨ h.at_ < 0 ∨ n ≤ h.at_ then 2 else if nameOk h.cl = false then 1 else 0
noncomputable def handErr (n : Int) (hs : List HandR) : Int :=
  let r := firstNZ (fun j => (hs[j]?).elim 0 (hand1 n)) hs.length
  if r ≠ 0 then r else if 8 < hs.length then 4 else 0

def locB (loc : Int) (x : InsR) : Bool := (x.op == 4 || x.op == 5) && decide (loc ≤ x.a)
noncomputable def bodyErr (m : MethR) : Int :=
  if m.abst then (if m.stat || m.priv || !m.code.isEmpty || !m.hs.isEmpty then 8 else 0)
  else if flowErr m.code ≠ 0 then flowErr m.code
  else if m.loc < argsOf m then 2
  else if m.code.any (locB m.loc) then 2
  else handErr m.code.length m.hs

noncomputable def methErr (m : MethR) (ahead : List MethR) : Int :=
  if nameOk m.nm = false then 1
  else if mtyErr m.ty ≠ 0 then 1
  else if ahead.any (fun x => x.nm == m.nm && x.ty == m.ty) then 5
  else if m.loc < 0 ∨ 8 < m.loc then 2
  else bodyErr m

def faceErr (l : List (List UInt8)) (i : Nat) : Int := (l[i]?).elim 0 fun f => if nameOk f = false then 1 else if (l.take i).contains f then 5 else 0
open Classical in
noncomputable def fieldErr (l : List FieldR) (i : Nat) : Int := (l[i]?).elim 0 fun f => if nameOk f.nm = false ∨ ¬ TypeOk f.ty then 1 else if (l.take i).any (fun x => x.nm == f.nm) then 5 else 0
noncomputable def methsErr (l : List MethR) (i : Nat) : Int := (l[i]?).elim 0 fun m => methErr m (l.take i)

noncomputable def classErr (c : ClassR) : Int :=
  if nameOk c.nm = false ∨ (c.sup ≠ [] ∧ nameOk c.sup = false) then 1
  else if firstNZ (faceErr c.faces) c.faces.length ≠ 0 then firstNZ (faceErr c.faces) c.faces.length
  else if 8 < c.faces.length ∨ 8 < c.fields.length ∨ 8 < c.meths.length then 4
  else if firstNZ (fieldErr c.fields) c.fields.length ≠ 0 then firstNZ (fieldErr c.fields) c.fields.length
  else if firstNZ (methsErr c.meths) c.meths.length ≠ 0 then firstNZ (methsErr c.meths) c.meths.length
  else if c.face = true ∧ c.fields ≠ [] then 8
  else 0

end Go.Proofs.YtokomofjcnefaaaDoor
