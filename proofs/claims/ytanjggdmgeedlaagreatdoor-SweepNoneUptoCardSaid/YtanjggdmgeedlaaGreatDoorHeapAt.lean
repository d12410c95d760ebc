/-
  Things and heaps in memory.
-/
import Derived.Test.YtanjggdmgeedlaaGreatDoorPHeap
import Derived.Test.YtanjggdmgeedlaaGreatDoorBase
import Derived.Test.YtanjggdmgeedlaaGreatDoorBlkG
namespace Go.Proofs.YtanjggdmgeedlaaGreatDoor
set_option linter.unusedVariables false
set_option linter.unusedSimpArgs false
open Go.RowKit Go.Shelf Go.Lib

abbrev HA := Option Addr × Nat
def vCells (v : ValR) : List Value := [.int .i64 v.kind, .int .i64 v.n]
def vV (v : ValR) : Value := .agg #[.int .i64 v.kind, .int .i64 v.n]
def thCells (x : ThingR) (p : HA) : List Value := [.string ⟨⟨x.ty⟩⟩, .slice p.1 x.has.length p.2]
def thV (x : ThingR) (p : HA) : Value := .agg #[.string ⟨⟨x.ty⟩⟩, .slice p.1 x.has.length p.2]
def HasAt (w : World) (l : List ValR) (p : HA) : Prop := RowsAt w 2 p.1 p.2 (l.map vCells)
theorem HasAt.below {w w' : World} {l : List ValR} {p : HA} (h : HasAt w l p) (hb : Below w.heap.size w w') : HasAt w' l p := RowsAt.below h hb
theorem HasAt.cells {w : World} {l : List ValR} {p : HA} (h : HasAt w l p) {k : Nat} {v : ValR} (hx : l[k]? = some v) : ∃ b off, p.1 = some ⟨b, off, none⟩ ∧ b < w.heap.size ∧ w.cell? ⟨b, off + k * 2, none⟩ = some (.int .i64 v.kind) ∧ w.cell? ⟨b, off + k * 2 + 1, none⟩ = some (.int .i64 v.n) := by
  obtain ⟨_, h2 | ⟨b, off, hp, hlt, hc⟩⟩ := h
  · have : l = [] := by simpa using h2
    subst this; simp at hx
  · have hh := hc k (vCells v) (by rw [List.getElem?_map, hx]; rfl)
    exact ⟨b, off, hp, hlt, hh 0 _ rfl, hh 1 _ rfl⟩
/-- a slice of things -/
def ThingsAt (w : World) (a : Option Addr) (cap : Nat) (X : List ThingR) (ps : List HA) : Prop :=
  ps.length = X.length ∧ RowsAt w 2 a cap (List.zipWith thCells X ps) ∧ ∀ (k : Nat) (x : ThingR) (p : HA), X[k]? = some x → ps[k]? = some p → HasAt w x.has p
theorem ThingsAt.below {w w' : World} {a : Option Addr} {cap : Nat} {X : List ThingR} {ps : List HA} (h : ThingsAt w a cap X ps) (hb : Below w.heap.size w w') : ThingsAt w' a cap X ps :=
  ⟨h.1, h.2.1.below hb, fun k m p hm hp => (h.2.2 k m p hm hp).below hb⟩
theorem ThingsAt.cells {w : World} {a : Option Addr} {cap : Nat} {X : List ThingR} {ps : List HA} (h : ThingsAt w a cap X ps) {k : Nat} {x : ThingR} (hx : X[k]? = some x) : ∃ (b : Nat) (off : Nat) (p : HA), a = some ⟨b, off, none⟩ ∧ b < w.heap.size ∧ ps[k]? = some p ∧ HasAt w x.has p ∧
    w.cell? ⟨b, off + k * 2, none⟩ = some (.string ⟨⟨x.ty⟩⟩) ∧ w.cell? ⟨b, off + k * 2 + 1, none⟩ = some (.slice p.1 x.has.length p.2) := by
  obtain ⟨hl, hr, hm⟩ := h
  obtain ⟨hk, hx'⟩ := List.getElem?_eq_some_iff.1 hx
  have hkp : k < ps.length := by omega
  obtain ⟨p, hp⟩ : ∃ p, ps[k]? = some p := ⟨_, List.getElem?_eq_getElem hkp⟩
  have hz : (List.zipWith thCells X ps)[k]? = some (thCells x p) := by
    rw [List.getElem?_zipWith, hx, hp]
  obtain ⟨_, h2 | ⟨b, off, rfl, hlt, hc⟩⟩ := hr
  · rw [h2] at hz; simp at hz
  · have hh := hc k _ hz
    exact ⟨b, off, p, rfl, hlt, hp, hm k x p hx hp, hh 0 _ rfl, hh 1 _ rfl⟩
/-- bounds -/
def ThB (x : ThingR) : Prop := x.ty.length ≤ 8388608 ∧ x.has.length ≤ 8388608 ∧ ∀ v ∈ x.has, (-9223372036854775808 ≤ v.kind ∧ v.kind ≤ 9223372036854775807) ∧ -9223372036854775808 ≤ v.n ∧ v.n ≤ 9223372036854775807
def HpB (X : List ThingR) : Prop := X.length ≤ 8388608 ∧ ∀ x ∈ X, ThB x

/-- a text that is a type's, with short names -/
def DT (t : Nm) : Prop := ∃ d b, t = (Kd.ty d b).text ∧ d ≤ 3 ∧ b.cl.length ≤ 20
theorem dt_ok {t : Nm} (h : TypeOk t) : DT t := by
  obtain ⟨d, b, e, hd, hn⟩ := type_kd.1 h
  refine ⟨d, b, e, hd, ?_⟩
  cases b with
  | int => simp [Bse.cl]
  | long => simp [Bse.cl]
  | cls n => exact (name_len (hn n rfl)).2
theorem dt_len {t : Nm} (h : DT t) : t.length ≤ 25 := by
  obtain ⟨d, b, rfl, hd, hb⟩ := h
  cases b with
  | int => simp [Kd.text, Bse.text]; omega
  | long => simp [Kd.text, Bse.text]; omega
  | cls n => simp [Bse.cl] at hb; simp [Kd.text, Bse.text]; omega
end Go.Proofs.YtanjggdmgeedlaaGreatDoor
