/-
  Classes and methods by value; the cells of a method as a block.
-/
import Derived.Test.YtanjggdmgeedlaaGreatDoorWBase
import Derived.Test.YtanjggdmgeedlaaGreatDoorBlkG
namespace Go.Proofs.YtanjggdmgeedlaaGreatDoor
set_option linter.unusedVariables false
set_option linter.unusedSimpArgs false
open Go.RowKit

/-! the fields of a class by value -/
@[go_sem] theorem class_face (c : ClassR) (p : CAddr) (w : World) : (Instr.field 56 (classV c p) 3).run Tryz.prog w = .ok (.bool c.face) w := by kernel_rfl
@[go_sem] theorem class_fields (c : ClassR) (p : CAddr) (w : World) : (Instr.field 56 (classV c p) 4).run Tryz.prog w = .ok (.slice p.ga c.fields.length p.gc) w := by kernel_rfl
@[go_sem] theorem class_meths (c : ClassR) (p : CAddr) (w : World) : (Instr.field 56 (classV c p) 5).run Tryz.prog w = .ok (.slice p.ma c.meths.length p.mc) w := by kernel_rfl

/-- the cells of a method -/
def mArr (m : MethR) (p : MAddr) : Array Value := #[.string ⟨⟨m.nm⟩⟩, .string ⟨⟨m.ty⟩⟩, .bool m.stat, .bool m.abst, .bool m.priv, .int .i64 m.loc, .slice p.ca m.code.length p.cc, .slice p.ha m.hs.length p.hc]
theorem methV_arr (m : MethR) (p : MAddr) : methV m p = .agg (mArr m p) := rfl
def zeroMR : MethR := ⟨[], [], false, false, false, 0, [], []⟩
def nilM : MAddr := ⟨none, 0, none, 0⟩
theorem mblk_cells {W : World} {g : Nat} {m : MethR} {p : MAddr} (h : Blk W g 63 (mArr m p)) : W.cell? ⟨g, 0, none⟩ = some (.string ⟨⟨m.nm⟩⟩) ∧ W.cell? ⟨g, 1, none⟩ = some (.string ⟨⟨m.ty⟩⟩) ∧ W.cell? ⟨g, 2, none⟩ = some (.bool m.stat) ∧ W.cell? ⟨g, 3, none⟩ = some (.bool m.abst) ∧
    W.cell? ⟨g, 4, none⟩ = some (.bool m.priv) ∧ W.cell? ⟨g, 5, none⟩ = some (.int .i64 m.loc) ∧ W.cell? ⟨g, 6, none⟩ = some (.slice p.ca m.code.length p.cc) ∧ W.cell? ⟨g, 7, none⟩ = some (.slice p.ha m.hs.length p.hc) :=
  ⟨h.cell 0, h.cell 1, h.cell 2, h.cell 3, h.cell 4, h.cell 5, h.cell 6, h.cell 7⟩
theorem mArr_one (m : MethR) (p : MAddr) : (mArr m p).all (·.oneCell') = true := by simp [mArr, Value.oneCell']
theorem info_meth : (Tryz.prog.info? 63).map (·.size) = some 8 := by kernel_rfl
end Go.Proofs.YtanjggdmgeedlaaGreatDoor
