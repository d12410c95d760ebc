/-
  Plain law (no program): instructions, and what is wrong with one.
-/
import Derived.Test.YtokomofjcnefaaaDoorPMeth
import Derived.IntWalk
namespace Go.Proofs.YtokomofjcnefaaaDoor
set_option linter.unusedVariables false
set_option linter.unusedSimpArgs false
open Go.Lib Go.RowKit

structure InsR where
  op : Int
  a : Int
  b : Int
  ty : List UInt8
  cl : List UInt8
  nm : List UInt8

def insV (x : InsR) : Value := .agg #[.int .i64 x.op, .int .i64 x.a, .int .i64 x.b, .string ⟨⟨x.ty⟩⟩, .string ⟨⟨x.cl⟩⟩, .string ⟨⟨x.nm⟩⟩]

def jumpsB (op : Int) : Bool := decide (12 ≤ op) && decide (op ≤ 14)

def rangedB (x : InsR) : Bool :=
  if x.op = 2 then !(x.ty == [73]) || (x.a == wrap32 x.a)
  else if x.op = 4 ∨ x.op = 5 then decide (0 ≤ x.a) && decide (x.a < 8)
  else if x.op = 9 then decide (1 ≤ x.a) && decide (x.a ≤ 12)
  else !(jumpsB x.op) || (decide (0 ≤ x.a) && decide (x.a ≤ 40) && decide (0 ≤ x.b) && decide (x.b ≤ 5))

def numB (t : List UInt8) : Bool := t == [73] || t == [74]

open Classical in
noncomputable def typedB (x : InsR) : Bool :=
  if x.op = 2 ∨ x.op = 9 ∨ x.op = 10 then numB x.ty
  else if x.op = 18 ∨ x.op = 20 ∨ x.op = 21 then decide (TypeOk x.ty) && decide (TypeOk (91 :: x.ty))
  else if x.op = 22 ∨ x.op = 23 then decide (TypeOk x.ty) && !(numB x.ty)
  else if x.op = 24 ∨ x.op = 25 then decide (∃ A g, MethodOk x.ty A g)
  else true

/-- the letters of what an instruction needs, by its number -/
def needL (op : Nat) : List UInt8 :=
  match op with
  | 2 => [65, 84] | 4 => [65] | 5 => [65] | 9 => [65, 84] | 10 => [84] | 12 => [65, 66] | 13 => [65] | 14 => [65] | 15 => [67]
  | 16 => [67, 78] | 17 => [67, 78] | 18 => [84] | 20 => [84] | 21 => [84] | 22 => [84] | 23 => [84] | 24 => [84, 67, 78] | 25 => [84, 67, 78]
  | _ => []

noncomputable def insErr (x : InsR) : Int :=
  if x.op < 1 ∨ 28 < x.op then 1
  else if (!(needL x.op.toNat).contains 65 && x.a != 0) || (!(needL x.op.toNat).contains 66 && x.b != 0) || (!(needL x.op.toNat).contains 84 && x.ty != []) || (!(needL x.op.toNat).contains 67 && x.cl != []) || (!(needL x.op.toNat).contains 78 && x.nm != []) then 1
  else if !rangedB x then 2
  else if !typedB x || ((needL x.op.toNat).contains 67 && !nameOk x.cl) || ((needL x.op.toNat).contains 78 && !nameOk x.nm) then 1
  else 0
end Go.Proofs.YtokomofjcnefaaaDoor
