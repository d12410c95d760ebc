/-
  TrimSame: the walk of the law.
-/
import Derived.Test.YtpdbhfacglojjaaDoorTrim
import Derived.Test.YtpdbhfacglojjaaDoorCodeSame
import Derived.Test.YtpdbhfacglojjaaDoorOpenCode
namespace Go.Proofs.YtpdbhfacglojjaaDoor
set_option linter.unusedVariables false
set_option linter.unusedSimpArgs false
open Go.RowKit Go.Shelf Go.Lib

set_option maxRecDepth 100000 in
set_option maxHeartbeats 4000000 in
theorem trimSame_go (l : List InsR) (a : Option Addr) (cap : Nat) (w : World) (hC : CodeAt w a cap l) (hF : FormsAt w) (hT : ∀ x ∈ l, x.ty.length ≤ 8388608) :
    Calls Tryd.prog 4 #[.slice a l.length cap] w fun e w' => e = .returned (.bool true) ∧ Below w.heap.size w w' := by
  have HC := Lib.hid hC
  have HF := Lib.hid hF
  have HT := Lib.hid hT
  clear hC hF hT
  by_cases h0 : flowErr l = 0
  · have hok := (flowErr_zero l).1 h0
    have hlen := hok.len
    have HOK := Lib.hid hok
    clear h0 hok
    go_enter Tryd.func4, Tryd.ntmps4
    go_wp2_with fail
    refine (named_true _).mono ?_
    rintro e w1 ⟨rfl, hb1⟩
    have HB1 := Lib.hid hb1
    have HC1 := Lib.hid (HC.out.below hb1)
    have HF1 := Lib.hid (HF.out.below hb1)
    clear hb1
    go_wp2_with fail
    refine (reach_ok l a cap _ HC1.out HF1.out HT.out HOK.out).mono ?_
    rintro e w2 ⟨v, rfl, ho, hb2⟩
    have HB2 := Lib.hid (bl_trans HB1.out hb2)
    obtain ⟨ra, rc, rfl, _⟩ := slice_of_own ho
    have HC2 := Lib.hid (HC1.out.below hb2)
    have HF2 := Lib.hid (HF1.out.below hb2)
    clear hb2 ho HC1 HF1 HB1
    go_wp2_with fail
    refine (trim_ok l a cap _ HC2.out HF2.out HT.out HOK.out).mono ?_
    rintro e w3 ⟨v, seen, rfl, hse, ho, hb3⟩
    obtain ⟨ma, mc, rfl, hca⟩ := code_of_own ho
    have HSE := Lib.hid hse
    have HM := Lib.hid hca
    have HB3 := Lib.hid (bl_trans HB2.out hb3)
    have HC3 := Lib.hid (HC2.out.below hb3)
    clear hse hca hb3 ho HC2 HF2 HB2
    go_wp2_with fail
    go_loopw [8] (fun i wr => ∃ k : Nat, k ≤ l.length ∧ i = .int .i64 k ∧ wr = w3 ∧ Hid (∀ y ∈ l.take k, y.op ≠ 1)) (fun i _ => l.length - (RowKit.intOf i).toNat)
    case atStart => exact ⟨0, by omega, rfl, by trivial, Lib.hid (by simp)⟩
    case round =>
      obtain ⟨k, hk, rfl, rfl, hz⟩ := hrel
      by_cases hlk : k < l.length
      · obtain ⟨x, hx⟩ : ∃ x, l[k]? = some x := ⟨_, List.getElem?_eq_getElem hlk⟩
        obtain ⟨b, off, rfl, hlt, c0, _⟩ := HC3.out.cells hx
        by_cases h1 : x.op = 1
        · have hlt2 := kept_nop_lt HSE.out.len hx h1
          have hlt3 : ((trimL l seen).length : Int) < (l.length : Int) := by
            have : (trimL l seen).length < l.length := hlt2
            omega
          rw [h1] at c0
          clear hx h1 hlt2
          go_wp2_with fail
          go_ret
          exact ⟨by simp [hlt3], HB3.out⟩
        · have e1 : (x.op == 1) = false := by rw [beq_eq_false_iff_ne]; exact h1
          have HZ := Lib.hid (take_all_succ hz.out hx h1)
          clear hx h1 hz
          go_wp2_with fail
          go_roundw
          case rel => exact ⟨k + 1, by omega, by go_num, by trivial, HZ⟩
          case measure => simp [RowKit.intOf]; omega
      · obtain rfl : k = l.length := by omega
        have hz2 := hz.out
        rw [List.take_length] at hz2
        have hts := trim_same HOK.out HSE.out hz2
        clear hz hz2 hlk
        rcases hts with ⟨h1, h2⟩ | ⟨h1, h2⟩
        · have h3 : trimL l seen = l := h2
          rw [h3] at HM ⊢
          have HS := Lib.hid (code_same l _ _ _ _ _ HM.out HC3.out (by omega))
          have HR := Lib.hid h1
          clear h1 h2 h3
          rw [HR.out]
          go_wp2_with fail
          refine HS.out.mono ?_
          rintro e w4 ⟨rfl, hb4⟩
          go_wp2_with fail
          go_ret
          exact ⟨rfl, bl_trans HB3.out hb4⟩
        · have HS := Lib.hid (fun w => code_len (trimL l seen).length l.length ma a mc cap w h2)
          have e1 : (((reachL l).length : Int) == (l.length : Int)) = false := by rw [beq_eq_false_iff_ne]; omega
          have e2 : ((reachL l).length == l.length) = false := by rw [beq_eq_false_iff_ne]; exact h1
          clear h1 h2
          go_wp2_with fail
          refine (HS.out _).mono ?_
          rintro e w4 ⟨rfl, hb4⟩
          go_wp2_with fail
          go_ret
          exact ⟨rfl, bl_trans HB3.out hb4⟩
  · have HE := Lib.hid (fun w hC hF => reach_bad l a cap w hC hF HT.out h0)
    have HE2 := Lib.hid (fun w hC hF => trim_bad l a cap w hC hF HT.out h0)
    generalize flowErr l = n at HE HE2
    clear h0
    go_enter Tryd.func4, Tryd.ntmps4
    go_wp2_with fail
    refine (named_true _).mono ?_
    rintro e w1 ⟨rfl, hb1⟩
    have HC1 := Lib.hid (HC.out.below hb1)
    have HF1 := Lib.hid (HF.out.below hb1)
    go_wp2_with fail
    refine (HE.out _ HC1.out HF1.out).mono ?_
    rintro e w2 ⟨rfl, hb2⟩
    go_wp2_with fail
    refine (HE2.out _ (HC1.out.below hb2) (HF1.out.below hb2)).mono ?_
    rintro e w3 ⟨rfl, hb3⟩
    go_wp2_with fail
    go_ret
    exact ⟨by simp, bl_trans (bl_trans hb1 hb2) hb3⟩

set_option maxRecDepth 100000 in
theorem trimSame.walk {H : Type} {enc : TypeId × Value → H} {W : World} {base : Nat} {v0 : Value} {d0 : DataW H} {p0 : List MemPlace} (hv : Value.okWide Tryd.prog W .any base 22 v0) (h0 : DataW.Trod enc Tryd.prog W 0 (fun _ => true) true 22 v0 d0 p0)
    (W' : World) (hW : W' = W) (hL : laidMetH Tryd.prog Rows.trimSameUptoRow.laid W) {S : Prop} (_ : S) (hbulk : Rows.uptoBulkAll [d0] ≤ 1048576) :
    Calls Tryd.prog 4 #[v0] W' fun e w' => e = .returned (.bool true) ∧ Below W'.heap.size W' w' := by
  subst hW
  obtain ⟨a0, len, cap0, rfl⟩ := WideShapes.okWide_slice Tryd.underlying22 hv
  obtain ⟨fuel, hf⟩ := h0
  obtain ⟨a, cap, l, hcs, hC, hll, ht⟩ := open_code hf
  simp only [Value.cells, List.cons.injEq, and_true] at hcs
  rw [hcs]
  simp only [Rows.uptoBulkAll] at hbulk
  exact trimSame_go l a cap W' hC (forms_of_laid hL (by kernel_rfl)) (fun x hx => by have := (ht x hx).1; omega)
end Go.Proofs.YtpdbhfacglojjaaDoor
