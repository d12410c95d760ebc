/-
  Plain law (no program): 32-bit wrap-around.
-/
import Derived.IntWalk
import Derived.RowKit
import Derived.Laws.BitsLemmas
import Derived.OpenShut
namespace Go.Proofs.YtanjggdmgeedlaaGreatDoor
set_option linter.unusedVariables false
set_option linter.unusedSimpArgs false
open Go.RowKit

theorem wrap32k (n : Int) : wrap32 n = (n + 2147483648) % 4294967296 - 2147483648 := by
  unfold wrap32
  omega
theorem wrap64_w32 (n : Int) : wrap64 (wrap32 n) = wrap32 n := by
  rw [wrap32k]; unfold wrap64; omega

theorem tdiv_parts (n : Int) : ∃ q r : Int, n.tdiv 4294967296 = q ∧ n = q * 4294967296 + r ∧ -4294967296 < r ∧ r < 4294967296 ∧ (0 ≤ n → 0 ≤ r) ∧ (n ≤ 0 → r ≤ 0) := by
  by_cases h : 0 ≤ n
  · refine ⟨n.tdiv 4294967296, n % 4294967296, rfl, ?_, by omega, by omega, fun _ => by omega, fun _ => by omega⟩
    rw [Int.tdiv_eq_ediv_of_nonneg h]; omega
  · obtain ⟨m, rfl⟩ : ∃ m : Int, n = -m := ⟨-n, by omega⟩
    refine ⟨(-m).tdiv 4294967296, -(m % 4294967296), rfl, ?_, by omega, by omega, fun _ => by omega, fun _ => by omega⟩
    rw [Int.neg_tdiv, Int.tdiv_eq_ediv_of_nonneg (by omega)]; omega

theorem wrap_way1 (n : Int) (h0 : -9223372036854775808 ≤ n) (h1 : n ≤ 9223372036854775807) (a : n < wrap64 (wrap64 (n.tdiv 4294967296) * 4294967296))
    (b : 2147483648 ≤ wrap64 (n - wrap64 (wrap64 (wrap64 (n.tdiv 4294967296) - 1) * 4294967296))) :
    wrap64 (wrap64 (n - wrap64 (wrap64 (wrap64 (n.tdiv 4294967296) - 1) * 4294967296)) - 4294967296) = wrap32 n := by
  obtain ⟨q, r, hq, hn, h2, h3, h4, h5⟩ := tdiv_parts n
  rw [hq] at a b ⊢
  rw [wrap32k]
  unfold wrap64 at *
  omega
theorem wrap_way2 (n : Int) (h0 : -9223372036854775808 ≤ n) (h1 : n ≤ 9223372036854775807) (a : n < wrap64 (wrap64 (n.tdiv 4294967296) * 4294967296))
    (b : wrap64 (n - wrap64 (wrap64 (wrap64 (n.tdiv 4294967296) - 1) * 4294967296)) < 2147483648) :
    wrap64 (n - wrap64 (wrap64 (wrap64 (n.tdiv 4294967296) - 1) * 4294967296)) = wrap32 n := by
  obtain ⟨q, r, hq, hn, h2, h3, h4, h5⟩ := tdiv_parts n
  rw [hq] at a b ⊢
  rw [wrap32k]
  unfold wrap64 at *
  omega
theorem wrap_way3 (n : Int) (h0 : -9223372036854775808 ≤ n) (h1 : n ≤ 9223372036854775807) (a : wrap64 (wrap64 (n.tdiv 4294967296) * 4294967296) ≤ n)
    (b : 2147483648 ≤ wrap64 (n - wrap64 (wrap64 (n.tdiv 4294967296) * 4294967296))) :
    wrap64 (wrap64 (n - wrap64 (wrap64 (n.tdiv 4294967296) * 4294967296)) - 4294967296) = wrap32 n := by
  obtain ⟨q, r, hq, hn, h2, h3, h4, h5⟩ := tdiv_parts n
  rw [hq] at a b ⊢
  rw [wrap32k]
  unfold wrap64 at *
  omega
theorem wrap_way4 (n : Int) (h0 : -9223372036854775808 ≤ n) (h1 : n ≤ 9223372036854775807) (a : wrap64 (wrap64 (n.tdiv 4294967296) * 4294967296) ≤ n)
    (b : wrap64 (n - wrap64 (wrap64 (n.tdiv 4294967296) * 4294967296)) < 2147483648) :
    wrap64 (n - wrap64 (wrap64 (n.tdiv 4294967296) * 4294967296)) = wrap32 n := by
  obtain ⟨q, r, hq, hn, h2, h3, h4, h5⟩ := tdiv_parts n
  rw [hq] at a b ⊢
  rw [wrap32k]
  unfold wrap64 at *
  omega

theorem w_bounds {a : Int} (ha : (Lit.int .i64 a).wf = true) : -9223372036854775808 ≤ a ∧ a ≤ 9223372036854775807 := by simpa [Lit.wf, IntKind.min, IntKind.max, IntKind.signed, IntKind.bits] using ha

theorem wrap32_twice (n : Int) : wrap32 (wrap32 n) = wrap32 n := by simp only [wrap32k]; omega
theorem wrap32_range (n : Int) : -2147483648 ≤ wrap32 n ∧ wrap32 n ≤ 2147483647 := by simp only [wrap32k]; omega
end Go.Proofs.YtanjggdmgeedlaaGreatDoor
