/-
  The table of instructions as the row lists it: what its cells hold.
-/
import Derived.Test.YtokomofjcnefaaaDoorPForms
import Derived.Test.YtokomofjcnefaaaDoorDesc
import Derived.LaidSub
import Derived.OpenShut
import Derived.Lib.LaidTab
import Derived.ChangeArms
namespace Go.Proofs.YtokomofjcnefaaaDoor
set_option linter.unusedVariables false
set_option linter.unusedSimpArgs false
open Go.RowKit Go.Lib Go.ChangeShapes

def formsData : DataW Unit := .agg (formL.map fun p => .agg [.lit (.string p.1), .lit (.string p.2)])

def FormsAt (w : World) : Prop := ∀ (i : Nat) (p : List UInt8 × List UInt8), formL[i]? = some p → w.cell? ⟨3, i * 2, none⟩ = some (.string ⟨⟨p.1⟩⟩) ∧ w.cell? ⟨3, i * 2 + 1, none⟩ = some (.string ⟨⟨p.2⟩⟩)

theorem FormsAt.lt {w : World} (h : FormsAt w) : 3 < w.heap.size := by
  have h1 := (h 0 _ rfl).1
  exact World.block_lt_of_cell? w _ h1

theorem FormsAt.below {w w' : World} (h : FormsAt w) (hb : Below w.heap.size w w') : FormsAt w' := fun i p hp => by
  have hl := h.lt
  obtain ⟨h1, h2⟩ := h i p hp
  exact ⟨by rw [hb.cell (p := ⟨3, i * 2, none⟩) hl]; exact h1, by rw [hb.cell (p := ⟨3, i * 2 + 1, none⟩) hl]; exact h2⟩

theorem bytes_of {s : ByteArray} {l : List UInt8} (h : s.data.toList = l) : s = ⟨⟨l⟩⟩ := by
  subst h
  rfl

theorem forms_of_laid {laid : List (String × DataW Unit)} {W : World} (h : laidMetH Tryd.prog laid W) (hf : laid.filter (fun x => x.1 == "coffeehouse/ins.forms") = [("coffeehouse/ins.forms", formsData)]) : FormsAt W := by
  have h1 := h.filter (fun x => x.1 == "coffeehouse/ins.forms")
  rw [hf] at h1
  have h2 := (laidMetH_iff.1 h1).1
  have h3 : laidMet Tryd.prog [("coffeehouse/ins.forms", formsData)] W := h2
  obtain ⟨ps, ⟨g', t', cs, fuel, p, q, hg', ht', hvar, hd, _, _⟩, _⟩ := h3
  have hg : Tryd.prog.globalNamed "coffeehouse/ins.forms" = some 3 := by kernel_rfl
  obtain rfl := Option.some.inj (hg.symm.trans hg')
  have hty : (Tryd.prog.globals[3]?).map (·.type) = some 140 := by kernel_rfl
  obtain rfl := Option.some.inj (hty.symm.trans ht')
  obtain ⟨xs, m, _, hx, _, hlen, hat⟩ := DataW.trod_array (n := 29) Tryd.underlying140 hd
  have hce : Tryd.prog.cellsOf 136 = 2 := by kernel_rfl
  have hcs : Tryd.prog.cellsOf 9 = 1 := by kernel_rfl
  rw [hce] at hat
  have hxd : xs.map (·.1) = formL.map fun p => (.agg [.lit (.string p.1), .lit (.string p.2)] : DataW Unit) := by
    have := congrArg Prod.fst hx
    simp only [formsData, DataW.agg.injEq] at this
    exact this.symm
  intro i pr hp
  have hi : i < 29 := by
    have := (List.getElem?_eq_some_iff.1 hp).1
    exact this
  have h4 := hat i hi
  obtain ⟨y, hy⟩ : ∃ y, xs[i]? = some y := ⟨_, List.getElem?_eq_getElem (by omega)⟩
  rw [hy] at h4
  have hyd : y.1 = .agg [.lit (.string pr.1), .lit (.string pr.2)] := by
    have h5 : (xs.map (·.1))[i]? = some y.1 := by rw [List.getElem?_map, hy]; rfl
    rw [hxd, List.getElem?_map, hp] at h5
    exact (Option.some.inj h5).symm
  obtain ⟨zs, m2, _, hz, _, hzl, hzf⟩ := DataW.trod_struct Tryd.underlying136 h4
  have f0 : DataW.trod (fun _ => ()) Tryd.prog W 0 (fun _ => true) false m2 9 ((((cs.toList.drop (i * 2)).take 2).drop 0).take (Tryd.prog.cellsOf 9)) = zs[0]? := hzf 0 _ rfl
  have f1 : DataW.trod (fun _ => ()) Tryd.prog W 0 (fun _ => true) false m2 9 ((((cs.toList.drop (i * 2)).take 2).drop 1).take (Tryd.prog.cellsOf 9)) = zs[1]? := hzf 1 _ rfl
  rw [hcs] at f0 f1
  rw [hz] at hyd
  simp only [DataW.agg.injEq] at hyd
  have hz0 : ∃ z0, zs[0]? = some z0 := ⟨_, List.getElem?_eq_getElem (by rw [hzl]; decide)⟩
  have hz1 : ∃ z1, zs[1]? = some z1 := ⟨_, List.getElem?_eq_getElem (by rw [hzl]; decide)⟩
  obtain ⟨z0, e0⟩ := hz0
  obtain ⟨z1, e1⟩ := hz1
  rw [e0] at f0
  rw [e1] at f1
  obtain ⟨s0, c0, x0, _⟩ := DataW.trod_string Tryd.underlying9 f0
  obtain ⟨s1, c1, x1, _⟩ := DataW.trod_string Tryd.underlying9 f1
  have d0 : z0.1 = .lit (.string pr.1) := by
    have h5 : (zs.map (·.1))[0]? = some z0.1 := by rw [List.getElem?_map, e0]; rfl
    rw [hyd] at h5
    exact (Option.some.inj h5).symm
  have d1 : z1.1 = .lit (.string pr.2) := by
    have h5 : (zs.map (·.1))[1]? = some z1.1 := by rw [List.getElem?_map, e1]; rfl
    rw [hyd] at h5
    exact (Option.some.inj h5).symm
  rw [x0] at d0
  rw [x1] at d1
  simp only [DataW.lit.injEq, Lit.string.injEq] at d0 d1
  have g0 : cs[i * 2]? = some (.string s0) := by
    have := congrArg (·[0]?) c0
    simpa [List.getElem?_take, List.getElem?_drop, Nat.mul_comm] using this
  have g1 : cs[i * 2 + 1]? = some (.string s1) := by
    have := congrArg (·[0]?) c1
    simpa [List.getElem?_take, List.getElem?_drop, Nat.mul_comm] using this
  have v0 := World.var?_cell hg hvar (i * 2)
  have v1 := World.var?_cell hg hvar (i * 2 + 1)
  rw [g0] at v0
  rw [g1] at v1
  rw [bytes_of d0] at v0
  rw [bytes_of d1] at v1
  exact ⟨v0, v1⟩
end Go.Proofs.YtokomofjcnefaaaDoor
