import Derived.Test.YtfimajijegohmaaGreatDoorBase
namespace Go.Proofs.YtfimajijegohmaaGreatDoor
set_option maxRecDepth 100000
set_option maxHeartbeats 8000000
set_option linter.unusedVariables false
set_option linter.unusedSimpArgs false
open Go.RowKit
theorem wrap32k (n : Int) : wrap32 n = (n + 2147483648) % 4294967296 - 2147483648 := by
 unfold wrap32
 omega
theorem tdiv_parts (n : Int) : ∃ q r : Int, n.tdiv 4294967296 = q ∧ n = q * 4294967296 + r ∧ -4294967296 < r ∧ r < 4294967296 ∧ (0 ≤ n → 0 ≤ r) ∧ (n ≤ 0 → r ≤ 0) := by
 by_cases h : 0 ≤ n
 · refine ⟨n.tdiv 4294967296, n % 4294967296, rfl, ?_, by omega, by omega, fun _ => by omega, fun _ => by omega⟩
   rw [Int.tdiv_eq_ediv_of_nonneg h]; omega
 · obtain ⟨m, rfl⟩ : ∃ m : Int, n = -m := ⟨-n, by omega⟩
   refine ⟨(-m).tdiv 4294967296, -(m % 4294967296), rfl, ?_, by omega, by omega, fun _ => by omega, fun _ => by omega⟩
   rw [Int.neg_tdiv, Int.tdiv_eq_ediv_of_nonneg (by omega)]; omega
theorem wrap_way1 (n : Int) (h0 : -9223372036854775808 ≤ n) (h1 : n ≤ 9223372036854775807) (a : n < wrap64 (wrap64 (n.tdiv 4294967296) * 4294967296))
   (b : 2147483648 ≤ wrap64 (n - wrap64 (wrap64 (wrap64 (n.tdiv 4294967296) - 1) * 4294967296))) :
   wrap64 (wrap64 (n - wrap64 (wrap64 (wrap64 (n.tdiv 4294967296) - 1) * 4294967296)) - 4294967296) = wrap32 n := by
 obtain ⟨q, r, hq, hn, h2, h3, h4, h5⟩ := tdiv_parts n
 rw [hq] at a b ⊢
 rw [wrap32k]
 unfold wrap64 at *
 omega
theorem wrap_way2 (n : Int) (h0 : -9223372036854775808 ≤ n) (h1 : n ≤ 9223372036854775807) (a : n < wrap64 (wrap64 (n.tdiv 4294967296) * 4294967296))
   (b : wrap64 (n - wrap64 (wrap64 (wrap64 (n.tdiv 4294967296) - 1) * 4294967296)) < 2147483648) :
   wrap64 (n - wrap64 (wrap64 (wrap64 (n.tdiv 4294967296) - 1) * 4294967296)) = wrap32 n := by
 obtain ⟨q, r, hq, hn, h2, h3, h4, h5⟩ := tdiv_parts n
 rw [hq] at a b ⊢
 rw [wrap32k]
 unfold wrap64 at *
 omega
theorem wrap_way3 (n : Int) (h0 : -9223372036854775808 ≤ n) (h1 : n ≤ 9223372036854775807) (a : wrap64 (wrap64 (n.tdiv 4294967296) * 4294967296) ≤ n)
   (b : 2147483648 ≤ wrap64 (n - wrap64 (wrap64 (n.tdiv 4294967296) * 4294967296))) :
   wrap64 (wrap64 (n - wrap64 (wrap64 (n.tdiv 4294967296) * 4294967296)) - 4294967296) = wrap32 n := by
 obtain ⟨q, r, hq, hn, h2, h3, h4, h5⟩ := tdiv_parts n
 rw [hq] at a b ⊢
 rw [wrap32k]
 unfold wrap64 at *
 omega
theorem wrap_way4 (n : Int) (h0 : -9223372036854775808 ≤ n) (h1 : n ≤ 9223372036854775807) (a : wrap64 (wrap64 (n.tdiv 4294967296) * 4294967296) ≤ n)
   (b : wrap64 (n - wrap64 (wrap64 (n.tdiv 4294967296) * 4294967296)) < 2147483648) :
   wrap64 (n - wrap64 (wrap64 (n.tdiv 4294967296) * 4294967296)) = wrap32 n := by
 obtain ⟨q, r, hq, hn, h2, h3, h4, h5⟩ := tdiv_parts n
 rw [hq] at a b ⊢
 rw [wrap32k]
 unfold wrap64 at *
 omega
open Go.Shelf Go.Lib
theorem wrap_calls (n : Int) (w : World) (h0 : -9223372036854775808 ≤ n) (h1 : n ≤ 9223372036854775807) :
   Calls Tryz.prog 9 #[.int .i64 n] w fun e w' => e = .returned (.int .i64 (wrap32 n)) ∧ w = w' := by
 have H0 := Hd h0
 have H1 := Hd h1
 clear h0 h1
 go_enter Tryz.func9, Tryz.ntmps9
 go_wp2
 all_goals go_ret
 · exact ⟨ret_int (wrap_way1 n H0.out H1.out (by assumption) (by assumption)), rfl⟩
 · exact ⟨ret_int (wrap_way2 n H0.out H1.out (by assumption) (by assumption)), rfl⟩
 · exact ⟨ret_int (wrap_way3 n H0.out H1.out (by assumption) (by assumption)), rfl⟩
 · exact ⟨ret_int (wrap_way4 n H0.out H1.out (by assumption) (by assumption)), rfl⟩
end Go.Proofs.YtfimajijegohmaaGreatDoor
