/-
  FoldChain: the walk of the law.
-/
import Derived.Test.YtimkingebjhemaaDoorFold7
import Derived.Test.YtimkingebjhemaaDoorTrim
import Derived.Test.YtimkingebjhemaaDoorCodeSame
import Derived.Test.YtimkingebjhemaaDoorWrapC
import Derived.Test.YtimkingebjhemaaDoorFrame
namespace Go.Proofs.YtimkingebjhemaaDoor
set_option linter.unusedVariables false
set_option linter.unusedSimpArgs false
open Go.RowKit Go.Shelf Go.Lib

def addW (s u : Int) : Int := wrap32 (s + u)
def sumL (s : Int) (ts : List Int) : Int := ts.foldl addW s
theorem sumL_snoc (s : Int) (ts : List Int) (u : Int) : sumL s (ts ++ [u]) = addW (sumL s ts) u := by simp [sumL]
theorem sumL_word (s : Int) (hs : wrap32 s = s) : ∀ ts : List Int, wrap32 (sumL s ts) = sumL s ts := by
  intro ts
  rcases List.eq_nil_or_concat ts with rfl | ⟨r, u, rfl⟩
  · exact hs
  · rw [List.concat_eq_append, sumL_snoc]; exact wrap32_twice _
theorem pairs_snoc (ts : List Int) (u : Int) : pairs (ts ++ [u]) = pairs ts ++ [pushI u, addI] := by simp [pairs]
theorem nil_or_cons (ts : List Int) : ts = [] ∨ ∃ u r, ts = u :: r := by cases ts <;> simp

theorem ins_src2 (W : World) (x y : InsR) (g : Nat) (hg : g = W.heap.size) : SrcRow (W.alloc (.cells (insCells x ++ insCells y).toArray 36)) 6 (.slice (some ⟨g, 0, none⟩) 2 2) 2 (insCells x ++ insCells y) := by
  subst hg
  refine ⟨rfl, ?_, Or.inr ⟨_, _, rfl, fun j u hj => new_cells W (insCells x ++ insCells y) 36 j u hj⟩⟩
  intro u hu
  rcases List.mem_append.1 hu with h | h
  · exact insCells_one x u h
  · exact insCells_one y u h

/-- one round of folding and trimming -/
theorem fold_round (s : Int) (r : List Int) (hs : wrap32 s = s) (hr : ∀ a ∈ r, wrap32 a = a) (hl : r.length ≤ 14) : ∃ (q : List InsR) (s' : Int) (r' : List Int), q.length = (chain s r).length ∧
    (∀ a cap w, CodeAt w a cap (chain s r) → FormsAt w → Calls Tryd.prog 9 #[.slice a (chain s r).length cap] w (AllRes q w)) ∧
    (∀ a cap w, CodeAt w a cap q → FormsAt w → Calls Tryd.prog 10 #[.slice a q.length cap] w (AllRes (chain s' r') w)) ∧ wrap32 s' = s' ∧ (∀ a ∈ r', wrap32 a = a) ∧ sumL s' r' = sumL s r ∧ r'.length ≤ r.length - 1 := by
  rcases nil_or_cons r with rfl | ⟨u, r, rfl⟩
  · refine ⟨chain s [], s, [], rfl, fun a cap w h hF => all_one s hs a cap w h hF, fun a cap w h hF => (trim_ok _ a cap w h hF chain_short (chain_ok hs (by simp) (by simp))).mono ?_, hs, by simp, rfl, by simp⟩
    rintro e w' ⟨v, seen, rfl, hse, ho, hb⟩
    have e1 : trimL (chain s []) seen = chain s [] := chain_trim hs (by simp) hse
    rw [e1] at ho
    exact ⟨v, rfl, ho, hb⟩
  · have hr' : ∀ a ∈ r, wrap32 a = a := fun a ha => hr a (by simp [ha])
    refine ⟨folded s u r, wrap32 (s + u), r, folded_len s u r, fun a cap w h hF => all_sum s u r hs hr (by simp at hl; omega) a cap w h hF, fun a cap w h hF => (trim_ok _ a cap w h hF folded_short (folded_ok hr' (by simp at hl; omega))).mono ?_, wrap32_twice _, hr', rfl, by simp⟩
    rintro e w' ⟨v, seen, rfl, hse, ho, hb⟩
    have e1 : trimL (folded s u r) seen = chain (wrap32 (s + u)) r := folded_trim hr' hse
    rw [e1] at ho
    exact ⟨v, rfl, ho, hb⟩

theorem min_run (W : World) (n k : Nat) (h : n = k + 1 ∨ (k = 14 ∧ 15 ≤ n)) (hk : k ≤ 14) : (Builtin.min_ #[3, 3] 3 #[.int .i64 (n : Int), .int .i64 15]).run Tryd.prog W = .ok (.int .i64 ((k : Int) + 1)) W := by
  by_cases h15 : 15 < n
  · obtain rfl : k = 14 := by omega
    have h2 : (15 : Int) < (n : Int) := by omega
    simp [Builtin.min_, Builtin.min2, go_sem, h2]
  · obtain rfl : n = k + 1 := by omega
    have h2 : ¬ (15 : Int) < (k : Int) + 1 := by omega
    simp [Builtin.min_, Builtin.min2, go_sem, h2]

set_option maxRecDepth 100000 in
set_option maxHeartbeats 4000000 in
/-- some numbers: at most 15 of them, and at least one -/
theorem foldChain_some (z : Int) (ts : List Int) (n : Nat) (b off cap : Nat) (w : World) (hz : -9223372036854775808 ≤ z ∧ z ≤ 9223372036854775807) (hts : ∀ x ∈ ts, -9223372036854775808 ≤ x ∧ x ≤ 9223372036854775807) (hl : ts.length ≤ 14)
    (hn : (n = ts.length + 1) ∨ (ts.length = 14 ∧ 15 ≤ n)) (hc : n ≤ cap) (hb : b < w.heap.size) (h0 : w.cell? ⟨b, off, none⟩ = some (.int .i64 z)) (h1 : ∀ i x, ts[i]? = some x → w.cell? ⟨b, off + (i + 1), none⟩ = some (.int .i64 x)) (hF : FormsAt w) :
    Calls Tryd.prog 4 #[.slice (some ⟨b, off, none⟩) n cap] w fun e w' => e = .returned (.bool true) ∧ Below w.heap.size w w' := by
  have HZ := Lib.hid (fun w => wrap_calls z w hz.1 hz.2)
  have HTS := Lib.hid hts
  have H0 := Lib.hid h0
  have H1 := Lib.hid h1
  have HF := Lib.hid hF
  obtain ⟨m, hm⟩ : ∃ m, m = ts.length + 1 := ⟨_, rfl⟩
  have hsl : ∀ W, (Instr.slice 22 (.slice (some ⟨b, off, none⟩) n cap) none (some (.int .i64 (m : Int))) none).run Tryd.prog W = .ok (.slice (some ⟨b, off, none⟩) m cap) W := fun W => by
    have ht' : Tryd.prog.underlying 22 = some (.slice (Tryd.prog.elem 22)) := by simp [Program.elem, Tryd.underlying22]
    rw [run_slice_h W _ _ _ _ ht' .i64 (m : Int) (by omega) (by omega)]
    have : 0 < cap := by omega
    simp [Result.andThen, sliced, go_sem]
  have hmin : ∀ W, (Builtin.min_ #[3, 3] 3 #[.int .i64 (n : Int), .int .i64 15]).run Tryd.prog W = .ok (.int .i64 (m : Int)) W := fun W => by
    have := min_run W n ts.length hn hl
    rw [show ((ts.length : Int) + 1) = (m : Int) by omega] at this
    exact this
  have hm1 : 0 < m := by omega
  have hm2 : (0 : Int) < (m : Int) := by omega
  have hm3 : ((m : Int) == 0) = false := by rw [beq_eq_false_iff_ne]; omega
  have hm4 : m ≤ 15 := by omega
  have HM := Lib.hid hm
  clear hz hts h0 h1 hF hn hm
  have hs0 := wrap32_twice z
  have hr0 := wrap32_range z
  generalize wrap32 z = s0 at *
  have HS0 := Lib.hid hs0
  clear hs0
  obtain ⟨wts, hwts⟩ : ∃ wts : List Int, wts = ts.map wrap32 := ⟨_, rfl⟩
  have HWT := Lib.hid hwts
  clear hwts
  go_enter Tryd.func4, Tryd.ntmps4
  go_wp2_with fail
  refine (named_true _).mono ?_
  rintro e w1 ⟨rfl, hb1⟩
  have HB1 := Lib.hid hb1
  have c0 : w1.cell? ⟨b, off, none⟩ = some (.int .i64 z) := by rw [hb1.cell (p := ⟨b, off, none⟩) hb]; exact H0.out
  have hbl := Nat.lt_of_lt_of_le hb hb1.size
  have HF1 := Lib.hid (HF.out.below hb1)
  clear hb1
  go_wp2_with fail
  refine (HZ.out _).mono ?_
  rintro e w2 ⟨rfl, rfl⟩
  go_wp2_with fail
  refine (HZ.out _).mono ?_
  rintro e w2 ⟨rfl, rfl⟩
  have hrow : (w1.alloc (.cells #[.int .i64 2, .int .i64 s0, .int .i64 0, .string ⟨⟨[73]⟩⟩, .string ⟨⟨[]⟩⟩, .string ⟨⟨[]⟩⟩] 36)).ownsRow w1.heap.size 36 6 (.slice (some ⟨w1.heap.size, 0, none⟩) 1 1) 1 ((pushI s0 :: pairs (wts.take 0)).map insCells).flatten :=
    World.ownsRow_lit _ _ 1 (Nat.le_refl _) (by unfold maxLen; omega) rfl
  have HR0 := Lib.hid hrow
  clear hrow
  go_wp2_with fail
  go_loopw [4, 5, 6] (fun c s i wr => ∃ k : Nat, k < m ∧ i = .int .i64 ((k : Int) + 1) ∧ s = .int .i64 (sumL s0 (wts.take k)) ∧ Hid (wr.ownsRow w1.heap.size 36 6 c (2 * k + 1) ((pushI s0 :: pairs (wts.take k)).map insCells).flatten) ∧ Below w1.heap.size w1 wr) (fun _ _ i _ => 16 - (RowKit.intOf i).toNat)
  case atStart => exact ⟨0, by omega, rfl, rfl, HR0, bl_alloc (Below.refl _ _) _⟩
  case round =>
    obtain ⟨k, hk, rfl, rfl, HR, hb⟩ := hrel
    obtain ⟨A, C, rfl, _⟩ := slice_of_own HR.out
    have HB := Lib.hid hb
    have hsr := hb.size
    have HSW := Lib.hid (sumL_word s0 HS0.out (wts.take k))
    have hsr1 : -2147483648 ≤ sumL s0 (wts.take k) ∧ sumL s0 (wts.take k) ≤ 2147483647 := by rw [← HSW.out]; exact wrap32_range _
    by_cases hlk : k + 1 < m
    · obtain ⟨x, hx⟩ : ∃ x, ts[k]? = some x := ⟨_, List.getElem?_eq_getElem (by have := HM.out; omega)⟩
      have hxw : wts[k]? = some (wrap32 x) := by rw [HWT.out, List.getElem?_map, hx]; rfl
      have cx : wr.cell? ⟨b, off + (k + 1), none⟩ = some (.int .i64 x) := by
        rw [(bl_trans HB1.out hb).cell (p := ⟨b, off + (k + 1), none⟩) (by assumption)]; exact H1.out k x hx
      have hxb := HTS.out x (List.mem_of_getElem? hx)
      have HX := Lib.hid (fun w => wrap_calls x w hxb.1 hxb.2)
      have htk : wts.take (k + 1) = wts.take k ++ [wrap32 x] := by rw [List.take_add_one, hxw]; rfl
      have hyr := wrap32_range x
      have HSN := Lib.hid (show sumL s0 (wts.take (k + 1)) = wrap32 (sumL s0 (wts.take k) + wrap32 x) by rw [htk, sumL_snoc]; rfl)
      have HPN := Lib.hid (show ((pushI s0 :: pairs (wts.take (k + 1))).map insCells).flatten = ((pushI s0 :: pairs (wts.take k)).map insCells).flatten ++ (insCells (pushI (wrap32 x)) ++ insCells addI) by rw [htk, pairs_snoc]; simp)
      have hbr := Nat.lt_of_lt_of_le hbl hsr
      clear hb hx hxw htk hxb
      generalize hS : sumL s0 (wts.take k) = S at *
      generalize hY : wrap32 x = y at *
      have HY := Lib.hid (fun w => wrap_calls (S + y) w (by omega) (by omega))
      clear hS hY
      have hk1 : (k : Int) + 1 < (m : Int) := by omega
      have hk2 : k + 1 < m := by omega
      go_wp2_with fail
      refine (HX.out _).mono ?_
      rintro e w3 ⟨rfl, rfl⟩
      go_wp2_with (at_builtin; refine wpList_append_src rowIns rfl _ _ rfl w1.heap.size _ (2 * k + 1) ((pushI s0 :: pairs (wts.take k)).map insCells).flatten rfl ?c0 _ 2 (insCells (pushI y) ++ insCells addI) rfl ?c1 ?c2 ?c3 ?c4 ?_)
      case c0 => exact HR.out.alloc _
      case c1 => exact ins_src2 _ (pushI y) addI _ rfl
      case c2 => omega
      case c3 => omega
      case c4 => simp; omega
      intro v4 w4 ho4 hg4
      have hb4 := (HB.out.alloc hsr _).trans (grown_any (by simp; omega) (HR.out.alloc _) hg4)
      obtain ⟨A4, C4, rfl, _⟩ := slice_of_own ho4
      have HO4 := Lib.hid ho4
      have HB4 := Lib.hid hb4
      have c4 : w4.cell? ⟨b, off + (k + 1), none⟩ = some (.int .i64 x) := by
        rw [HB4.out.cell (p := ⟨b, off + (k + 1), none⟩) hbl, ← HB.out.cell (p := ⟨b, off + (k + 1), none⟩) hbl]; exact cx
      have hb4l := Nat.lt_of_lt_of_le hbl HB4.out.size
      clear ho4 hg4 hb4 cx
      go_wp2_with fail
      refine (HX.out _).mono ?_
      rintro e w5 ⟨rfl, rfl⟩
      go_wp2_with fail
      refine (HY.out _).mono ?_
      rintro e w5 ⟨rfl, rfl⟩
      go_wp2_with fail
      go_roundw
      case rel => exact ⟨k + 1, by omega, by go_num, by rw [HSN.out], Lib.hid (by rw [HPN.out, show 2 * (k + 1) + 1 = 2 * k + 1 + 2 by omega]; exact HO4.out), HB4.out⟩
      case measure => simp [RowKit.intOf]; omega
    · have hk0 : k + 1 = m := by omega
      have hwl : wts.length = ts.length := by rw [HWT.out, List.length_map]
      have htk : wts.take k = wts := by rw [List.take_of_length_le]; have := HM.out; omega
      rw [htk] at HR HSW hsr1 ⊢
      have HCH := Lib.hid (show ((chain s0 wts).map insCells).flatten = ((pushI s0 :: pairs wts).map insCells).flatten ++ insCells giveI by simp [chain])
      have HLC := Lib.hid (show (chain s0 wts).length = 2 * k + 1 + 1 by rw [chain_len]; have := HM.out; omega)
      have HKM := Lib.hid hk0
      clear hb hlk hk0 hwl htk
      generalize hS : sumL s0 wts = S at *
      have HS := Lib.hid hS
      clear hS
      have hk1 : ¬ (k : Int) + 1 < (m : Int) := by have := HKM.out; omega
      have hk2 : ¬ k + 1 < m := by have := HKM.out; omega
      go_wp2_with (at_builtin; refine wpList_append_one rowIns rfl _ _ rfl w1.heap.size _ (2 * k + 1) ((pushI s0 :: pairs wts).map insCells).flatten rfl ?c0 (insCells giveI) rfl (insCells_one giveI) _ rfl (by simp) (by omega) (by omega) hsr ?_)
      case c0 => exact HR.out
      intro v4 w4 ho4 hg4
      have hb4 := HB.out.trans (grown_below hsr HR.out hg4)
      have ho5 : w4.ownsRow w1.heap.size 36 6 v4 (chain s0 wts).length ((chain s0 wts).map insCells).flatten := by rw [HLC.out, HCH.out]; exact ho4
      obtain ⟨A4, C4, rfl, hc4⟩ := code_of_own ho5
      have HC4 := Lib.hid hc4
      have HB4 := Lib.hid hb4
      clear ho4 hg4 hb4 ho5 hc4
      have HF4 := Lib.hid (HF1.out.below HB4.out)
      have hs4 := HB4.out.size
      have HWW := Lib.hid (show ∀ a ∈ wts, wrap32 a = a from by
        intro a ha
        rw [HWT.out] at ha
        obtain ⟨x, _, rfl⟩ := List.mem_map.1 ha
        exact wrap32_twice x)
      have HWL := Lib.hid (show wts.length ≤ m - 1 by rw [HWT.out, List.length_map]; have := HM.out; omega)
      obtain ⟨wb, hwb⟩ : ∃ wb, wb = w4 := ⟨w4, rfl⟩
      subst hwb
      go_wp2_with fail
      go_loopw [4, 7] (fun c i wr => ∃ (j : Nat) (s : Int) (r : List Int) (A : Option Addr) (C : Nat), j ≤ m ∧ i = .int .i64 j ∧ c = .slice A (chain s r).length C ∧ Hid (CodeAt wr A C (chain s r)) ∧ Hid (wrap32 s = s ∧ (∀ a ∈ r, wrap32 a = a) ∧ sumL s r = S ∧ r.length ≤ m - 1 - j) ∧ Below wb.heap.size wb wr) (fun _ i _ => 16 - (RowKit.intOf i).toNat)
      case atStart => exact ⟨0, s0, wts, A4, C4, by omega, rfl, rfl, HC4, Lib.hid ⟨HS0.out, HWW.out, HS.out, by have := HWL.out; omega⟩, Below.refl _ _⟩
      case round =>
        obtain ⟨j, s, r, A5, C5, hj, rfl, rfl, HCR, HI, hbr⟩ := hrel
        have HBR := Lib.hid hbr
        have hsr5 := hbr.size
        have HFR := Lib.hid (HF4.out.below hbr)
        have hj16 : j ≤ 15 := by omega
        clear hbr
        by_cases hlj : j < m
        · obtain ⟨q, s', r', hq, hall, htr, hs', hr', hsum, hrl⟩ := fold_round s r HI.out.1 HI.out.2.1 (by have := HI.out.2.2.2; omega)
          have HI' := Lib.hid (show wrap32 s' = s' ∧ (∀ a ∈ r', wrap32 a = a) ∧ sumL s' r' = S ∧ r'.length ≤ m - 1 - (j + 1) from ⟨hs', hr', hsum.trans HI.out.2.2.1, by have := HI.out.2.2.2; omega⟩)
          have HA := Lib.hid (hall A5 C5 wr HCR.out HFR.out)
          have HT := Lib.hid htr
          rw [← hq] at HA ⊢
          have HQ := Lib.hid hq
          clear hq hall htr hs' hr' hsum hrl
          go_wp2_with fail
          refine HA.out.mono ?_
          rintro e w6 ⟨v6, rfl, ho6, hb6⟩
          obtain ⟨A6, C6, rfl, hc6⟩ := code_of_own ho6
          have HT6 := Lib.hid (HT.out A6 C6 w6 hc6 (HFR.out.below hb6))
          have HB6 := Lib.hid (HBR.out.trans (hb6.mono hsr5))
          have hs6 := HB6.out.size
          clear ho6 hc6 hb6
          go_wp2_with fail
          refine HT6.out.mono ?_
          rintro e w7 ⟨v7, rfl, ho7, hb7⟩
          obtain ⟨A7, C7, rfl, hc7⟩ := code_of_own ho7
          have HC7 := Lib.hid hc7
          have HB7 := Lib.hid (HB6.out.trans (hb7.mono hs6))
          clear ho7 hc7 hb7
          go_wp2_with fail
          go_roundw
          case rel => exact ⟨j + 1, s', r', A7, C7, by omega, by go_num, rfl, HC7, HI', HB7.out⟩
          case measure => simp [RowKit.intOf]; omega
        · have hjm : j = m := by omega
          have hr0 : r = [] := by
            have := HI.out.2.2.2
            exact List.eq_nil_of_length_eq_zero (by omega)
          subst hr0
          have hsS : s = S := HI.out.2.2.1
          subst hsS
          have hrow : (wr.alloc (.cells #[.int .i64 2, .int .i64 s, .int .i64 0, .string ⟨⟨[73]⟩⟩, .string ⟨⟨[]⟩⟩, .string ⟨⟨[]⟩⟩, .int .i64 27, .int .i64 0, .int .i64 0, .string ⟨⟨[]⟩⟩, .string ⟨⟨[]⟩⟩, .string ⟨⟨[]⟩⟩] 36)).ownsRow wr.heap.size 36 6 (.slice (some ⟨wr.heap.size, 0, none⟩) 2 2) 2 ((chain s []).map insCells).flatten :=
            World.ownsRow_lit _ _ 2 (Nat.le_refl _) (by unfold maxLen; omega) rfl
          obtain ⟨A8, C8, hv8, hc8⟩ := code_of_own (l := chain s []) hrow
          have hv9 : A8 = some ⟨wr.heap.size, 0, none⟩ ∧ C8 = 2 := by
            have hl2 : (chain s []).length = 2 := rfl
            rw [hl2] at hv8
            simp only [Value.slice.injEq] at hv8
            exact ⟨hv8.1.symm, hv8.2.2.symm⟩
          rw [hv9.1, hv9.2] at hc8
          have hal := (Below.refl wr.heap.size wr).alloc (Nat.le_refl _) (.cells #[.int .i64 2, .int .i64 s, .int .i64 0, .string ⟨⟨[73]⟩⟩, .string ⟨⟨[]⟩⟩, .string ⟨⟨[]⟩⟩, .int .i64 27, .int .i64 0, .int .i64 0, .string ⟨⟨[]⟩⟩, .string ⟨⟨[]⟩⟩, .string ⟨⟨[]⟩⟩] 36)
          have HSM := Lib.hid (code_same (chain s []) A5 (some ⟨wr.heap.size, 0, none⟩) C5 2 _ (HCR.out.below hal) hc8 (by simp [chain_len]))
          have hl2 : (chain s []).length = 2 := rfl
          rw [hl2] at HSM
          rw [hl2]
          have HAL := Lib.hid hal
          clear hrow hc8 hv8 hv9 hal hl2
          go_wp2_with fail
          refine HSM.out.mono ?_
          rintro e w9 ⟨rfl, hb9⟩
          have HB9 := Lib.hid (bl_trans HAL.out hb9)
          clear hb9
          go_wp2_with fail
          go_ret
          exact ⟨rfl, bl_trans HB1.out (HB4.out.trans (HBR.out.mono hs4 |>.trans (HB9.out.mono (by omega))))⟩

theorem head_none (a : Option Addr) (cap : Nat) : ∃ A C, ∀ W, (Instr.slice 22 (.slice a 0 cap) none (some (.int .i64 0)) none).run Tryd.prog W = .ok (.slice A 0 C) W := by
  have ht' : Tryd.prog.underlying 22 = some (.slice (Tryd.prog.elem 22)) := by simp [Program.elem, Tryd.underlying22]
  cases a with
  | none => 
    refine ⟨none, cap, fun W => ?_⟩
    rw [run_slice_h W _ _ _ _ ht' .i64 0 (by omega) (by omega)]
    simp [Result.andThen, sliced, go_sem]
  | some ad =>
    by_cases hc : cap = 0
    · subst hc
      refine ⟨some ad, 0, fun W => ?_⟩
      rw [run_slice_h W _ _ _ _ ht' .i64 0 (by omega) (by omega)]
      simp [Result.andThen, sliced, go_sem]
    · refine ⟨some ad, cap, fun W => ?_⟩
      rw [run_slice_h W _ _ _ _ ht' .i64 0 (by omega) (by omega)]
      simp [Result.andThen, sliced, go_sem]

set_option maxRecDepth 100000 in
set_option maxHeartbeats 1000000 in
theorem foldChain_none (a : Option Addr) (cap : Nat) (w : World) :
    Calls Tryd.prog 4 #[.slice a 0 cap] w fun e w' => e = .returned (.bool true) ∧ Below w.heap.size w w' := by
  obtain ⟨A, C, hsl⟩ := head_none a cap
  have hmin : ∀ W, (Builtin.min_ #[3, 3] 3 #[.int .i64 0, .int .i64 15]).run Tryd.prog W = .ok (.int .i64 0) W := fun W => by simp [Builtin.min_, Builtin.min2, go_sem]
  go_enter Tryd.func4, Tryd.ntmps4
  go_wp2_with fail
  refine (named_true _).mono ?_
  rintro e w1 ⟨rfl, hb1⟩
  go_wp2_with fail
  go_ret
  exact ⟨rfl, hb1⟩

set_option maxRecDepth 100000 in
theorem foldChain.walk {H : Type} {enc : TypeId × Value → H} {W : World} {base : Nat} {v0 : Value} {d0 : DataW H} {p0 : List MemPlace} (hv : Value.okWide Tryd.prog W .any base 22 v0) (h0 : DataW.Trod enc Tryd.prog W 0 (fun _ => true) true 22 v0 d0 p0)
    (W' : World) (hW : W' = W) (hL : laidMetH Tryd.prog Rows.foldChainUptoRow.laid W) {S : Prop} (_ : S) (hbulk : Rows.uptoBulkAll [d0] ≤ 1048576) :
    Calls Tryd.prog 4 #[v0] W' fun e w' => e = .returned (.bool true) ∧ Below W'.heap.size W' w' := by
  subst hW
  obtain ⟨a, cap, zs, rfl, hcap, hwz, _, hrow, hd⟩ := open_int_row Tryd.underlying22 Tryd.underlying3 (by kernel_rfl) hv h0
  cases zs with
  | nil => exact foldChain_none a cap W'
  | cons z r =>
    rcases hrow with ⟨h, _, _⟩ | h | ⟨b, off, rfl, hlt, hc⟩
    · cases h
    · cases h
    have hw : ∀ x ∈ z :: r, -9223372036854775808 ≤ x ∧ x ≤ 9223372036854775807 := fun x hx => w_bounds (hwz x hx)
    have hr : ∀ i x, (r.take 14)[i]? = some x → W'.cell? ⟨b, off + (i + 1), none⟩ = some (.int .i64 x) := by
      intro i x hx
      have hi : i < 14 := by
        have := (List.getElem?_eq_some_iff.1 hx).1
        rw [List.length_take] at this
        omega
      rw [List.getElem?_take_of_lt hi] at hx
      have hil := (List.getElem?_eq_some_iff.1 hx).1
      have := hc (i + 1) (by simp; omega)
      rw [this, List.getD, List.getElem?_cons_succ, hx]
      rfl
    have hz : W'.cell? ⟨b, off, none⟩ = some (.int .i64 z) := by simpa using hc 0 (by simp)
    refine foldChain_some z (r.take 14) (z :: r).length b off cap W' (hw z (by simp)) (fun x hx => hw x (List.mem_cons_of_mem _ (List.mem_of_mem_take hx))) (by rw [List.length_take]; omega) ?_ hcap hlt hz hr (forms_of_laid hL (by kernel_rfl))
    simp only [List.length_take, List.length_cons]
    omega
end Go.Proofs.YtimkingebjhemaaDoor
