/-
  Plain law (no program): the table of instructions: the word and the needs of each.
-/
import Derived.Test.YtokomofjcnefaaaDoorPIns
namespace Go.Proofs.YtokomofjcnefaaaDoor
set_option linter.unusedVariables false
set_option linter.unusedSimpArgs false

def formL : List (List UInt8 × List UInt8) := [([], []), ([110, 111, 112], []), ([112, 117, 115, 104], [65, 84]), ([110, 117, 108, 108], []), ([108, 111, 97, 100], [65]), ([115, 116, 111, 114, 101], [65]), ([112, 111, 112], []), ([100, 117, 112], []), ([115, 119, 97, 112], []), ([109, 97, 116, 104], [65, 84]), ([99, 111, 110, 118], [84]), ([111, 114, 100, 101, 114], []), ([105, 102], [65, 66]), ([105, 102, 110, 117, 108, 108], [65]), ([103, 111, 116, 111], [65]), ([110, 101, 119], [67]), ([103, 101, 116], [67, 78]), ([112, 117, 116], [67, 78]), ([110, 101, 119, 97, 114, 114, 97, 121], [84]), ([108, 101, 110, 103, 116, 104], []), ([97, 108, 111, 97, 100], [84]), ([97, 115, 116, 111, 114, 101], [84]), ([99, 97, 115, 116], [84]), ([105, 115], [84]), ([99, 97, 108, 108], [84, 67, 78]), ([99, 97, 108, 108, 115], [84, 67, 78]), ([114, 101, 116, 117, 114, 110], []), ([103, 105, 118, 101], []), ([116, 104, 114, 111, 119], [])]

def wordL (op : Nat) : List UInt8 := (formL.getD op ([], [])).1

theorem form_get {op : Nat} (h : op < 29) : formL[op]? = some (wordL op, needL op) := by
  have h1 : ∀ i : Fin 29, formL[i.val]? = some (wordL i.val, needL i.val) := by decide
  exact h1 ⟨op, h⟩
end Go.Proofs.YtokomofjcnefaaaDoor
