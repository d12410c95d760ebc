/-
  Lists of classes in memory, and the map of a world.
-/
import Derived.Test.YtokomofjcnefaaaDoorClass5
import Derived.Test.YtokomofjcnefaaaDoorOpenClass
import Derived.Test.YtokomofjcnefaaaDoorSMap
import Derived.Test.YtokomofjcnefaaaDoorPWorld
namespace Go.Proofs.YtokomofjcnefaaaDoor
set_option linter.unusedVariables false
set_option linter.unusedSimpArgs false
open Go.RowKit Go.ChangeShapes Go.WideShapes Go.Deep

/-- a slice of classes -/
def ClassesAt (w : World) (a : Option Addr) (cap : Nat) (l : List ClassR) (ps : List CAddr) : Prop :=
  ps.length = l.length ∧ RowsAt w 6 a cap (List.zipWith classCells l ps) ∧ ∀ (k : Nat) (c : ClassR) (p : CAddr), l[k]? = some c → ps[k]? = some p → ClassAt w c p
theorem ClassesAt.below {w w' : World} {a : Option Addr} {cap : Nat} {l : List ClassR} {ps : List CAddr} (h : ClassesAt w a cap l ps) (hb : Below w.heap.size w w') : ClassesAt w' a cap l ps :=
  ⟨h.1, h.2.1.below hb, fun k m p hm hp => (h.2.2 k m p hm hp).below hb⟩
theorem ClassesAt.cells {w : World} {a : Option Addr} {cap : Nat} {l : List ClassR} {ps : List CAddr} (h : ClassesAt w a cap l ps) {k : Nat} {c : ClassR} (hx : l[k]? = some c) : ∃ (b : Nat) (off : Nat) (p : CAddr), a = some ⟨b, off, none⟩ ∧ b < w.heap.size ∧ ps[k]? = some p ∧ ClassAt w c p ∧
    w.cell? ⟨b, off + k * 6, none⟩ = some (.string ⟨⟨c.nm⟩⟩) ∧ w.cell? ⟨b, off + k * 6 + 1, none⟩ = some (.string ⟨⟨c.sup⟩⟩) ∧ w.cell? ⟨b, off + k * 6 + 2, none⟩ = some (.slice p.fa c.faces.length p.fc) ∧ w.cell? ⟨b, off + k * 6 + 3, none⟩ = some (.bool c.face) ∧
    w.cell? ⟨b, off + k * 6 + 4, none⟩ = some (.slice p.ga c.fields.length p.gc) ∧ w.cell? ⟨b, off + k * 6 + 5, none⟩ = some (.slice p.ma c.meths.length p.mc) := by
  obtain ⟨hl, hr, hm⟩ := h
  obtain ⟨hk, hx'⟩ := List.getElem?_eq_some_iff.1 hx
  have hkp : k < ps.length := by omega
  obtain ⟨p, hp⟩ : ∃ p, ps[k]? = some p := ⟨_, List.getElem?_eq_getElem hkp⟩
  have hz : (List.zipWith classCells l ps)[k]? = some (classCells c p) := by
    rw [List.getElem?_zipWith, hx, hp]
  obtain ⟨_, h2 | ⟨b, off, rfl, hlt, hc⟩⟩ := hr
  · rw [h2] at hz; simp at hz
  · have hh := hc k _ hz
    exact ⟨b, off, p, rfl, hlt, hp, hm k c p hx hp, hh 0 _ rfl, hh 1 _ rfl, hh 2 _ rfl, hh 3 _ rfl, hh 4 _ rfl, hh 5 _ rfl⟩

section
variable {H : Type} {enc : TypeId × Value → H} {W : World}
theorem open_classes {fuel : Nat} {cs : List Value} {d : DataW H} {p : List MemPlace} (h : DataW.trod enc Tryd.prog W 0 (fun _ => true) true fuel 22 cs = some (d, p)) :
    ∃ a cap l ps, cs = [.slice a (l : List ClassR).length cap] ∧ ClassesAt W a cap l ps ∧ l.length ≤ Rows.uptoBulk d ∧ (Rows.uptoBulk d ≤ 1048576 → ∀ x ∈ l, ClassB x ∧ ClassI x) := by
  obtain ⟨a, cap, L, rfl, hlc, _, hr⟩ := open_list Tryd.underlying22 cells_Class (by decide) (ClassIs (H := H) W) (fun fuel cs d p h hl => open_class h hl) h
  obtain ⟨h1, h2, h3⟩ := rows_of_list (f := fun mq => classCells mq.1 mq.2) (fun _ _ _ hR => hR.1) hlc hr
  refine ⟨a, cap, L.map (·.1), L.map (·.2), by rw [List.length_map], ⟨by simp, ?_, ?_⟩, by rw [List.length_map]; exact h2, fun hb x hx => ?_⟩
  · have e : List.zipWith classCells (L.map (·.1)) (L.map (·.2)) = L.map (fun mq => classCells mq.1 mq.2) := by
      clear h1 h2 h3 hr hlc h
      induction L with
      | nil => rfl
      | cons x r ih => simp only [List.map_cons, List.zipWith_cons_cons, ih]
    rw [e]; exact h1
  · intro k m q hm hq
    rw [List.getElem?_map] at hm hq
    cases hL : L[k]? with
    | none => rw [hL] at hm; cases hm
    | some mq =>
      rw [hL] at hm hq
      simp only [Option.map_some, Option.some.injEq] at hm hq
      subst hm hq
      obtain ⟨cs, d', ⟨_, hM, _⟩, _⟩ := h3 mq (List.mem_of_getElem? hL)
      exact hM
  · obtain ⟨mq, hmq, rfl⟩ := List.mem_map.1 hx
    obtain ⟨cs, d', ⟨_, _, hB⟩, hd⟩ := h3 mq hmq
    exact hB (by omega)
end

abbrev CP := ClassR × CAddr
def nilP : CAddr := ⟨none, 0, none, 0, none, 0, []⟩
def cpFind (L : List CP) (n : Nm) : Option CP := L.find? (fun cp => cp.1.nm == n)
def fOf (L : List CP) (n : Nm) : Option Value := (cpFind L n).map fun cp => classV cp.1 cp.2
/-- the map of a world -/
def WorldAt (W : World) (b : Nat) (L : List CP) : Prop := SMap W b L.length (fOf L) ∧ ∀ cp ∈ L, ClassAt W cp.1 cp.2
theorem WorldAt.below {w w' : World} {b : Nat} {L : List CP} (h : WorldAt w b L) (hb : Below w.heap.size w w') : WorldAt w' b L := ⟨h.1.below hb, fun cp hc => (h.2 cp hc).below hb⟩
theorem WorldAt.lt {w : World} {b : Nat} {L : List CP} (h : WorldAt w b L) : b < w.heap.size := h.1.lt

theorem cpFind_look (L : List CP) (n : Nm) : look (L.map (·.1)) n = (cpFind L n).map (·.1) := by
  unfold look cpFind
  rw [List.find?_map]
  rfl
theorem cpFind_mem {L : List CP} {n : Nm} {cp : CP} (h : cpFind L n = some cp) : cp.1.nm = n ∧ cp ∈ L := ⟨by simpa using List.find?_some h, List.mem_of_find?_eq_some h⟩
theorem cpFind_snoc (L : List CP) (cp : CP) (n : Nm) (h : cpFind L cp.1.nm = none) : fOf (L ++ [cp]) n = sputf (fOf L) cp.1.nm (classV cp.1 cp.2) n := by
  unfold fOf cpFind sputf at *
  rw [List.find?_append]
  by_cases e : n = cp.1.nm
  · subst e
    rw [if_pos rfl, h]
    simp
  · rw [if_neg e]
    show Option.map _ _ = Option.map (fun cp => classV cp.1 cp.2) (List.find? (fun cp => cp.1.nm == n) L)
    cases hf : L.find? (fun cp => cp.1.nm == n) with
    | some x => rfl
    | none =>
      have : (cp.1.nm == n) = false := by simpa using fun q => e q.symm
      simp [List.find?, this]
end Go.Proofs.YtokomofjcnefaaaDoor
