/-
  Plain law (no program): the model's 64-bit logic as operations on bit vectors; De Morgan, the inverse of exclusive disjunction, the sum of xor and and.
-/
import Derived.Laws.Bits64
import Derived.IntWalk
import Derived.RowKit
namespace Go.Proofs.YtnamnihdbemkhaaDoor
set_option linter.unusedVariables false
set_option linter.unusedSimpArgs false
open Go.RowKit

theorem wrap_toNat (v : BitVec 64) : IntKind.i64.wrap (v.toNat : Int) = v.toInt := by
  rw [IntKind.wrap_i64, BitVec.toInt_eq_toNat_bmod]
  have := v.isLt
  simp only [Int.bmod]
  omega
theorem bits_and_eq (a b : Int) : bits .and .i64 a b = (BitVec.ofInt 64 a &&& BitVec.ofInt 64 b).toInt := wrap_toNat _
theorem bits_or_eq (a b : Int) : bits .or .i64 a b = (BitVec.ofInt 64 a ||| BitVec.ofInt 64 b).toInt := wrap_toNat _
theorem bits_xor_eq (a b : Int) : bits .xor .i64 a b = (BitVec.ofInt 64 a ^^^ BitVec.ofInt 64 b).toInt := wrap_toNat _

theorem demorgan (a b : Int) : bits .xor .i64 (bits .and .i64 a b) (-1) = bits .or .i64 (bits .xor .i64 a (-1)) (bits .xor .i64 b (-1)) := by
  simp only [bits_and_eq, bits_or_eq, bits_xor_eq, BitVec.ofInt_toInt]
  congr 1
  have e : BitVec.ofInt 64 (-1) = BitVec.allOnes 64 := by decide
  rw [e]
  ext i hi
  rw [BitVec.getElem_xor, BitVec.getElem_and, BitVec.getElem_or, BitVec.getElem_xor, BitVec.getElem_xor, BitVec.getElem_allOnes]
  cases (BitVec.ofInt 64 a)[i] <;> cases (BitVec.ofInt 64 b)[i] <;> rfl

theorem xor_back (a b : Int) (h0 : -9223372036854775808 ≤ a) (h1 : a ≤ 9223372036854775807) : bits .xor .i64 (bits .xor .i64 a b) b = a := by
  simp only [bits_xor_eq, BitVec.ofInt_toInt]
  rw [BitVec.xor_assoc, BitVec.xor_self, BitVec.xor_zero, BitVec.toInt_ofInt]
  simp only [Int.bmod]
  omega

theorem xor_and_sum (a b : Int) : wrap64 (bits .xor .i64 a b + bits .and .i64 a b) = bits .or .i64 a b := by
  simp only [bits_and_eq, bits_or_eq, bits_xor_eq]
  have h : (BitVec.ofInt 64 a ^^^ BitVec.ofInt 64 b) + (BitVec.ofInt 64 a &&& BitVec.ofInt 64 b) = (BitVec.ofInt 64 a ||| BitVec.ofInt 64 b) := by
    rw [BitVec.add_eq_or_of_and_eq_zero]
    · ext i hi
      simp
      cases (BitVec.ofInt 64 a)[i] <;> cases (BitVec.ofInt 64 b)[i] <;> rfl
    · ext i hi
      simp
      cases (BitVec.ofInt 64 a)[i] <;> cases (BitVec.ofInt 64 b)[i] <;> simp
  rw [← h, BitVec.toInt_add]
  unfold wrap64
  simp only [Int.bmod]
  omega
end Go.Proofs.YtnamnihdbemkhaaDoor
