import Derived.Test.YtddbnboicmaooaaGreatDoorInsCheckA
import Derived.Test.YtddbnboicmaooaaGreatDoorInsCheckB
import Derived.Test.YtddbnboicmaooaaGreatDoorInsCheckC
import Derived.Test.YtddbnboicmaooaaGreatDoorInsCheckD
namespace Go.Proofs.YtddbnboicmaooaaGreatDoor
set_option linter.unusedVariables false
set_option linter.unusedSimpArgs false
open Go.RowKit Go.Shelf Go.Lib
theorem insCheck_calls (x : InsR) (hl : x.ty.length ≤ 8388608) (w : World) (hF : FormsAt w) : CheckAt x w := by
 obtain ⟨op, a, b, ty, cl, nm⟩ := x
 by_cases ho : op < 1 ∨ 28 < op
 · exact insCheck_out _ ho w
 obtain ⟨n, rfl⟩ : ∃ n : Nat, op = n := ⟨op.toNat, by omega⟩
 have h1 : 1 ≤ n := by omega
 have h2 : n ≤ 28 := by omega
 have key : ∀ i : Fin 29, needL i.val = [] ∨ needL i.val = [65, 84] ∨ needL i.val = [65] ∨ needL i.val = [84] ∨ needL i.val = [65, 66] ∨ needL i.val = [67] ∨ needL i.val = [67, 78] ∨ needL i.val = [84, 67, 78] := by decide
 rcases key ⟨n, by omega⟩ with h | h | h | h | h | h | h | h
 · exact insCheck_None n a b ty cl nm h1 h2 h hl w hF
 · exact insCheck_AT n a b ty cl nm h1 h2 h hl w hF
 · exact insCheck_A n a b ty cl nm h1 h2 h hl w hF
 · exact insCheck_T n a b ty cl nm h1 h2 h hl w hF
 · exact insCheck_AB n a b ty cl nm h1 h2 h hl w hF
 · exact insCheck_C n a b ty cl nm h1 h2 h hl w hF
 · exact insCheck_CN n a b ty cl nm h1 h2 h hl w hF
 · exact insCheck_TCN n a b ty cl nm h1 h2 h hl w hF
theorem ins_ok (x : InsR) (hl : x.ty.length ≤ 8388608) (w : World) (hF : FormsAt w) (h : insErr x = 0) : Calls Tryz.prog 43 #[insV x] w fun e w' => e = .returned .nilIface ∧ Below w.heap.size w w' := by
 have := insCheck_calls x hl w hF
 unfold CheckAt at this
 rw [h] at this
 exact this
theorem ins_bad (x : InsR) (hl : x.ty.length ≤ 8388608) (w : World) (hF : FormsAt w) (h : insErr x ≠ 0) : Calls Tryz.prog 43 #[insV x] w fun e w' => e = .returned (errV (insErr x)) ∧ Below w.heap.size w w' := by
 have := insCheck_calls x hl w hF
 unfold CheckAt errOf at this
 rw [if_neg h] at this
 exact this
end Go.Proofs.YtddbnboicmaooaaGreatDoor
