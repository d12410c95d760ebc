/-
  ins.Text as a fact for every world; the table of powers.
-/
import Derived.Test.YtlcpghblfpakjaaDoorText
import Derived.Test.YtlcpghblfpakjaaDoorOpenCode
import Derived.Laws.StructEq
namespace Go.Proofs.YtlcpghblfpakjaaDoor
set_option linter.unusedVariables false
set_option linter.unusedSimpArgs false
open Go.RowKit Go.Shelf Go.Lib

theorem pow_of_laid {laid : List (String × DataW Unit)} {W : World} (h : laidMetH Tryd.prog laid W) (hf : laid.filter (fun x => x.1 == "internal/strconv.uint64pow10") = [("internal/strconv.uint64pow10", Lib.tabData .u64 Lib.pow10Tab)]) : PowAt W := by
  have h1 := h.filter (fun x => x.1 == "internal/strconv.uint64pow10")
  rw [hf] at h1
  have h2 : laidMet Tryd.prog [("internal/strconv.uint64pow10", Lib.tabData .u64 Lib.pow10Tab)] W := (laidMetH_iff.1 h1).1
  have hg : Tryd.prog.globalNamed "internal/strconv.uint64pow10" = some 4 := by kernel_rfl
  have hT := Lib.tabIs_of_head hg (t := 184) (e := 150) (n := 20) (by kernel_rfl) Tryd.underlying184 Tryd.underlying150 (by kernel_rfl) (by kernel_rfl) h2
  refine ⟨hT, ?_⟩
  have hc := hT.cell hg 0 (by decide)
  exact World.block_lt_of_cell? W _ hc

def TextIs (x : InsR) (s : List UInt8) (v : Value) : Prop := ∀ w, FormsAt w → PowAt w → Calls Tryd.prog 17 #[insV x] w fun e w' => e = .returned (.tuple #[.string ⟨⟨s⟩⟩, v]) ∧ RowKit.Below w.heap.size w w'

theorem text_is (x : InsR) (hx : IntOk x.a ∧ IntOk x.b) (hl : x.ty.length ≤ 8388608) : (insErr x ≠ 0 ∧ TextIs x [] (errV (insErr x))) ∨ (insErr x = 0 ∧ TextIs x (textL x) .nilIface) := by
  by_cases h : insErr x = 0
  · exact Or.inr ⟨h, fun w hF hp => text_ok x hl hx w hF hp h⟩
  · exact Or.inl ⟨h, fun w hF _ => text_bad x hl w hF h⟩

end Go.Proofs.YtlcpghblfpakjaaDoor
