/-
  FlowAhead: the walk of the law.
-/
import Derived.Test.YtpdbhfacglojjaaDoorReach
import Derived.Test.YtpdbhfacglojjaaDoorInts
import Derived.Test.YtpdbhfacglojjaaDoorOpenCode
namespace Go.Proofs.YtpdbhfacglojjaaDoor
set_option linter.unusedVariables false
set_option linter.unusedSimpArgs false
open Go.RowKit Go.Shelf Go.Lib

set_option maxRecDepth 100000 in
theorem refJumps_calls (op : Int) (w : World) : Calls Tryd.prog 17 #[.int .i64 op] w fun e w' => e = .returned (.bool (jumpsB op)) ∧ w = w' := by
  go_enter Tryd.func17, Tryd.ntmps17
  go_wp2_with fail
  all_goals go_ret
  all_goals refine ⟨ret_bool ?_, rfl⟩
  all_goals (rw [Bool.eq_iff_iff]; simp only [jumpsB, Bool.or_eq_true, Bool.and_eq_true, decide_eq_true_eq, beq_iff_eq, true_iff]; omega)

/-- the code behind a Nop, so far -/
def aheadUp (l : List InsR) (k : Nat) : List InsR := nopR :: (l.take k).map shifted
theorem aheadUp_all (l : List InsR) : aheadUp l l.length = ahead l := by unfold aheadUp ahead; rw [List.take_length]
theorem aheadUp_succ {l : List InsR} {k : Nat} {x : InsR} (h : l[k]? = some x) : aheadUp l (k + 1) = aheadUp l k ++ [shifted x] := by
  obtain ⟨hk, rfl⟩ := List.getElem?_eq_some_iff.1 h
  unfold aheadUp
  rw [List.take_succ_eq_append_getElem hk, List.map_append]
  rfl
theorem aheadUp_len {l : List InsR} {k : Nat} (h : k ≤ l.length) : (aheadUp l k).length = k + 1 := by
  unfold aheadUp; simp; omega
/-- the places one later, so far -/
def wantUp (R : List Nat) (k : Nat) : List Value := (0 :: (R.take k).map (· + 1)).map intV
theorem wantUp_succ {R : List Nat} {k x : Nat} (hx : R[k]? = some x) : wantUp R (k + 1) = wantUp R k ++ [intV (x + 1)] := by
  obtain ⟨hk, rfl⟩ := List.getElem?_eq_some_iff.1 hx
  unfold wantUp
  rw [List.take_succ_eq_append_getElem hk]
  simp only [List.map_append, List.map_cons, List.map_nil, List.cons_append]
theorem wantUp_all (R : List Nat) : wantUp R R.length = (0 :: R.map (· + 1)).map intV := by unfold wantUp; rw [List.take_length]

theorem slice_of_own {w : World} {B : Nat} {e : TypeId} {size : Nat} {v : Value} {n : Nat} {xs : List Value} (h : w.ownsRow B e size v n xs) : ∃ a cap, v = .slice a n cap ∧ n ≤ cap := by
  rcases h.2 with ⟨rfl, h0⟩ | ⟨g, cap, cur, rfl, _, _, hle, _⟩
  · exact ⟨none, 0, by rw [h0], by omega⟩
  · exact ⟨_, cap, rfl, hle⟩
theorem flat_snoc (L : List InsR) (x : InsR) : ((L ++ [x]).map insCells).flatten = (L.map insCells).flatten ++ insCells x := by simp

set_option maxRecDepth 100000 in
set_option maxHeartbeats 4000000 in
theorem flowAhead_go (l : List InsR) (a : Option Addr) (cap : Nat) (w : World) (hC : CodeAt w a cap l) (hF : FormsAt w) (hT : ∀ x ∈ l, x.ty.length ≤ 8388608) (hll : l.length ≤ 100000000) :
    Calls Tryd.prog 3 #[.slice a l.length cap] w fun e w' => e = .returned (.bool true) ∧ Below w.heap.size w w' := by
  have HC := Lib.hid hC
  have HF := Lib.hid hF
  have HT := Lib.hid hT
  clear hC hF hT
  by_cases h0 : flowErr l = 0
  · have hok := (flowErr_zero l).1 h0
    have hlen := hok.len
    have HOK := Lib.hid hok
    clear h0 hok
    go_enter Tryd.func3, Tryd.ntmps3
    go_wp2_with fail
    refine (named_true _).mono ?_
    rintro e w1 ⟨rfl, hb1⟩
    have HB1 := Lib.hid hb1
    have HC1 := Lib.hid (HC.out.below hb1)
    have HF1 := Lib.hid (HF.out.below hb1)
    clear hb1
    go_wp2_with fail
    refine (reach_ok l a cap _ HC1.out HF1.out HT.out HOK.out).mono ?_
    rintro e w2 ⟨v, rfl, ho, hb2⟩
    have HB2 := Lib.hid (bl_trans HB1.out hb2)
    obtain ⟨ra, rc, rfl, hx1, hv⟩ := vals_of_own ho
    have HV := Lib.hid hv
    have HC2 := Lib.hid (HC1.out.below hb2)
    have HF2 := Lib.hid (HF1.out.below hb2)
    have hrl : (reachL l).length ≤ 40 := by rw [← reachUp_all]; have := reachUp_len l l.length; omega
    clear hb2 ho hx1 hv HC1 HF1 HB1
    by_cases h40 : 40 ≤ l.length
    · go_wp2_with fail
      go_ret
      exact ⟨rfl, HB2.out⟩
    · have hm0 : (w2.alloc (.cells #[.int .i64 1, .int .i64 0, .int .i64 0, .string ⟨#[]⟩, .string ⟨#[]⟩, .string ⟨#[]⟩] 30)).ownsRow w2.heap.size 30 6 (.slice (some ⟨w2.heap.size, 0, none⟩) 1 1) 1 ((aheadUp l 0).map insCells).flatten := by
        have := World.ownsRow_lit (base := w2.heap.size) (e := 30) (size := 6) w2 #[.int .i64 1, .int .i64 0, .int .i64 0, .string ⟨#[]⟩, .string ⟨#[]⟩, .string ⟨#[]⟩] 1 (Nat.le_refl _) (by unfold maxLen; omega) rfl
        exact this
      have HM := Lib.hid hm0
      clear hm0
      go_wp2_with fail
      go_loopw [6, 7] (fun v i wr => ∃ (k : Nat) (A : Option Addr) (C : Nat), k ≤ l.length ∧ i = .int .i64 k ∧ v = .slice A (k + 1) C ∧ wr.ownsRow w2.heap.size 30 6 (.slice A (k + 1) C) (k + 1) ((aheadUp l k).map insCells).flatten ∧ Below w2.heap.size w2 wr) (fun _ i _ => l.length - (RowKit.intOf i).toNat)
      case atStart => exact ⟨0, some ⟨w2.heap.size, 0, none⟩, 1, by omega, rfl, rfl, HM.out, (Below.refl _ _).alloc (Nat.le_refl _) _⟩
      case round =>
        obtain ⟨k, A, C, hk, rfl, rfl, ho, hbw⟩ := hrel
        have HO := Lib.hid ho
        have HBW := Lib.hid hbw
        have hszr := hbw.size
        clear ho hbw
        by_cases hlk : k < l.length
        · obtain ⟨x, hx⟩ : ∃ x, l[k]? = some x := ⟨_, List.getElem?_eq_getElem hlk⟩
          have hcw := HC2.out.below HBW.out
          obtain ⟨b, off, rfl, hlt, c0, c1, c2, c3, c4, c5⟩ := hcw.cells hx
          have HX := Lib.hid (aheadUp_succ hx)
          have hins := HOK.out.ins x (List.mem_of_getElem? hx)
          have HJ := Lib.hid (fun w => refJumps_calls x.op w)
          clear hcw hx
          cases hj : jumpsB x.op with
          | true =>
            have hr := jumps_ranged hins hj
            obtain ⟨r1, r2, _⟩ := hr
            have HS := Lib.hid (show insCells (shifted x) = [.int .i64 x.op, .int .i64 (x.a + 1), .int .i64 x.b, .string ⟨⟨x.ty⟩⟩, .string ⟨⟨x.cl⟩⟩, .string ⟨⟨x.nm⟩⟩] by unfold shifted; rw [if_pos hj]; rfl)
            rw [hj] at HJ
            clear hj hins
            go_wp2_with fail
            refine (HJ.out _).mono ?_
            rintro e w3 ⟨rfl, rfl⟩
            go_wp2_with (at_builtin; refine wpList_append_one rowIns rfl _ _ rfl w2.heap.size _ (k + 1) ((aheadUp l k).map insCells).flatten rfl ?c0 [.int .i64 x.op, .int .i64 (x.a + 1), .int .i64 x.b, .string ⟨⟨x.ty⟩⟩, .string ⟨⟨x.cl⟩⟩, .string ⟨⟨x.nm⟩⟩] rfl ?c1 _ rfl ?cg ?c2 ?c3 ?c4 ?_)
            case c0 => exact HO.out.alloc _
            case c1 => intro u hu; rw [← HS.out] at hu; exact insCells_one _ u hu
            case cg => simp
            case c2 => omega
            case c3 => omega
            case c4 => simp; omega
            intro v4 w4 ho4 hg4
            have hb4 := Lib.hid ((HBW.out.alloc hszr _).trans (grown_below (by simp; omega) (HO.out.alloc _) hg4))
            have ho5 : w4.ownsRow w2.heap.size 30 6 v4 (k + 1 + 1) ((aheadUp l (k + 1)).map insCells).flatten := by rw [HX.out, flat_snoc, HS.out]; exact ho4
            obtain ⟨A4, C4, rfl, _⟩ := slice_of_own ho5
            have HO5 := Lib.hid ho5
            clear ho4 hg4 ho5
            go_wp2_with fail
            go_roundw
            case rel => exact ⟨k + 1, A4, C4, by omega, by go_num, rfl, HO5.out, hb4.out⟩
            case measure => simp [RowKit.intOf]; omega
          | false =>
            have HS := Lib.hid (show insCells (shifted x) = [.int .i64 x.op, .int .i64 x.a, .int .i64 x.b, .string ⟨⟨x.ty⟩⟩, .string ⟨⟨x.cl⟩⟩, .string ⟨⟨x.nm⟩⟩] by unfold shifted; rw [if_neg (by rw [hj]; simp)]; rfl)
            rw [hj] at HJ
            clear hj hins
            go_wp2_with fail
            refine (HJ.out _).mono ?_
            rintro e w3 ⟨rfl, rfl⟩
            go_wp2_with (at_builtin; refine wpList_append_one rowIns rfl _ _ rfl w2.heap.size _ (k + 1) ((aheadUp l k).map insCells).flatten rfl ?c0 [.int .i64 x.op, .int .i64 x.a, .int .i64 x.b, .string ⟨⟨x.ty⟩⟩, .string ⟨⟨x.cl⟩⟩, .string ⟨⟨x.nm⟩⟩] rfl ?c1 _ rfl ?cg ?c2 ?c3 ?c4 ?_)
            case c0 => exact HO.out.alloc _
            case c1 => intro u hu; rw [← HS.out] at hu; exact insCells_one _ u hu
            case cg => simp
            case c2 => omega
            case c3 => omega
            case c4 => simp; omega
            intro v4 w4 ho4 hg4
            have hb4 := Lib.hid ((HBW.out.alloc hszr _).trans (grown_below (by simp; omega) (HO.out.alloc _) hg4))
            have ho5 : w4.ownsRow w2.heap.size 30 6 v4 (k + 1 + 1) ((aheadUp l (k + 1)).map insCells).flatten := by rw [HX.out, flat_snoc, HS.out]; exact ho4
            obtain ⟨A4, C4, rfl, _⟩ := slice_of_own ho5
            have HO5 := Lib.hid ho5
            clear ho4 hg4 ho5
            go_wp2_with fail
            go_roundw
            case rel => exact ⟨k + 1, A4, C4, by omega, by go_num, rfl, HO5.out, hb4.out⟩
            case measure => simp [RowKit.intOf]; omega
        · obtain rfl : k = l.length := by omega
          have ho := HO.out
          rw [aheadUp_all, show l.length + 1 = (ahead l).length by simp [ahead]] at ho
          obtain ⟨A', C', hv, hca⟩ := code_of_own ho
          simp only [Value.slice.injEq] at hv
          obtain ⟨rfl, hal, rfl⟩ := hv
          have HCA := Lib.hid hca
          have HFR := Lib.hid (HF2.out.below HBW.out)
          have HTA := Lib.hid (show ∀ x ∈ ahead l, x.ty.length ≤ 8388608 by
            intro x hx
            simp only [ahead, List.mem_cons, List.mem_map] at hx
            rcases hx with rfl | ⟨y, hy, rfl⟩
            · simp [nopR]
            · have := HT.out y hy
              unfold shifted
              split <;> exact this)
          have HOA := Lib.hid (ahead_ok HOK.out (by omega))
          have HRA := Lib.hid (reach_ahead HOK.out)
          have HVR := Lib.hid (HV.out.below HBW.out)
          clear ho hca hlk HO
          have hl1 : (ahead l).length = l.length + 1 := by simp [ahead]
          have HL1 := Lib.hid hl1
          rw [← hl1]
          clear hl1 hal
          go_wp2_with fail
          refine (reach_ok (ahead l) A C wr HCA.out HFR.out HTA.out HOA.out).mono ?_
          rintro e w5 ⟨v5, rfl, ho5, hb5⟩
          rw [HRA.out] at ho5
          have hR40 : ∀ n ∈ reachL l, n ≤ 40 := by
            intro n hn
            unfold reachL at hn
            have := (List.mem_filter.1 hn).1
            rw [List.mem_range] at this
            omega
          generalize reachL l = R at ho5 hrl HVR hR40 ⊢
          obtain ⟨sa, sc, rfl, _, hsv⟩ := vals_of_own ho5
          have HSV := Lib.hid hsv
          have HB5 := Lib.hid hb5
          have HR40 := Lib.hid hR40
          have HVR5 := Lib.hid (HVR.out.below hb5)
          have HBT := Lib.hid (bl_trans (bl_trans HB2.out HBW.out) hb5)
          have hsz5 := hb5.size
          have hw0 : (w5.alloc (.cells #[.int .i64 0] 3)).ownsRow w5.heap.size 3 1 (.slice (some ⟨w5.heap.size, 0, none⟩) 1 1) 1 (wantUp R 0) := by
            have := World.ownsRow_lit (base := w5.heap.size) (e := 3) (size := 1) w5 #[.int .i64 0] 1 (Nat.le_refl _) (by unfold maxLen; omega) rfl
            exact this
          have HW0 := Lib.hid hw0
          clear hsv hb5 ho5 hR40 hw0 HV HC2 HF2 HM HCA HFR HTA HOA HRA HVR HBW HB2
          go_wp2_with fail
          go_loopw [11, 12] (fun v i wq => ∃ (k : Nat) (A : Option Addr) (C : Nat), k ≤ R.length ∧ i = .int .i64 k ∧ v = .slice A (k + 1) C ∧ wq.ownsRow w5.heap.size 3 1 (.slice A (k + 1) C) (k + 1) (wantUp R k) ∧ Below w5.heap.size w5 wq) (fun _ i _ => R.length - (RowKit.intOf i).toNat)
          case atStart => exact ⟨0, some ⟨w5.heap.size, 0, none⟩, 1, by omega, rfl, rfl, HW0.out, (Below.refl _ _).alloc (Nat.le_refl _) _⟩
          case round =>
            obtain ⟨k, A, C, hk, rfl, rfl, ho, hbw⟩ := hrel
            have HO := Lib.hid ho
            have HBW := Lib.hid hbw
            have hszq := hbw.size
            clear ho hbw
            by_cases hlk : k < R.length
            · obtain ⟨x, hx⟩ : ∃ x, R[k]? = some x := ⟨_, List.getElem?_eq_getElem hlk⟩
              obtain ⟨_, h0 | ⟨b, off, rfl, hbl, hcs⟩⟩ := HVR5.out.below HBW.out
              · rw [List.map_eq_nil_iff] at h0; rw [h0] at hlk; simp at hlk
              have hcc := hcs k (intV x) (by rw [List.getElem?_map, hx]; rfl)
              have hx40 := HR40.out x (List.mem_of_getElem? hx)
              have HX := Lib.hid (wantUp_succ hx)
              clear hcs hx
              go_wp2_with (at_builtin; refine wpList_append_one rowInt rfl _ _ rfl w5.heap.size _ (k + 1) (wantUp R k) rfl ?c0 [intV (x + 1)] rfl ?c1 _ rfl ?cg ?c2 ?c3 ?c4 ?_)
              case c0 => exact HO.out
              case c1 => first | exact intV_one [x + 1] | rfl
              case cg => rfl
              case c2 => omega
              case c3 => omega
              case c4 => omega
              intro v4 w4 ho4 hg4
              have hb4 := Lib.hid (HBW.out.trans (grown_below hszq HO.out hg4))
              have ho5 : w4.ownsRow w5.heap.size 3 1 v4 (k + 1 + 1) (wantUp R (k + 1)) := by rw [HX.out]; exact ho4
              obtain ⟨A4, C4, rfl, _⟩ := slice_of_own ho5
              have HO5 := Lib.hid ho5
              clear ho4 hg4 ho5
              go_wp2_with fail
              go_roundw
              case rel => exact ⟨k + 1, A4, C4, by omega, by go_num, rfl, HO5.out, hb4.out⟩
              case measure => simp [RowKit.intOf]; omega
            · obtain rfl : k = R.length := by omega
              have ho := HO.out
              rw [wantUp_all] at ho
              obtain ⟨A', C', hv, _, hca⟩ := vals_of_own ho
              simp only [Value.slice.injEq] at hv
              obtain ⟨rfl, _, rfl⟩ := hv
              have e1 : (0 :: R.map (· + 1)).map intV = ((0 :: R.map (· + 1)).map (fun n : Nat => (n : Int))).map (.int .i64) := by rw [List.map_map]; rfl
              have h1 := HSV.out.below HBW.out
              rw [e1] at h1 hca
              have hl : ((0 :: R.map (· + 1)).map (fun n : Nat => (n : Int))).length = R.length + 1 := by simp
              have HI := Lib.hid (ints_same _ sa A sc C wr h1 hca (by rw [hl]; omega))
              rw [hl] at HI
              clear h1 hca ho e1 hl hlk
              go_wp2_with fail
              refine HI.out.mono ?_
              rintro e w6 ⟨rfl, hb6⟩
              go_wp2_with fail
              go_ret
              exact ⟨rfl, bl_trans (bl_trans HBT.out HBW.out) hb6⟩
  · have HE := Lib.hid (fun w hC hF => reach_bad l a cap w hC hF HT.out h0)
    generalize flowErr l = n at HE
    clear h0
    go_enter Tryd.func3, Tryd.ntmps3
    go_wp2_with fail
    refine (named_true _).mono ?_
    rintro e w1 ⟨rfl, hb1⟩
    go_wp2_with fail
    refine (HE.out _ (HC.out.below hb1) (HF.out.below hb1)).mono ?_
    rintro e w2 ⟨rfl, hb2⟩
    go_wp2_with fail
    go_ret
    exact ⟨rfl, bl_trans hb1 hb2⟩

set_option maxRecDepth 100000 in
theorem flowAhead.walk {H : Type} {enc : TypeId × Value → H} {W : World} {base : Nat} {v0 : Value} {d0 : DataW H} {p0 : List MemPlace} (hv : Value.okWide Tryd.prog W .any base 22 v0) (h0 : DataW.Trod enc Tryd.prog W 0 (fun _ => true) true 22 v0 d0 p0)
    (W' : World) (hW : W' = W) (hL : laidMetH Tryd.prog Rows.flowAheadUptoRow.laid W) {S : Prop} (_ : S) (hbulk : Rows.uptoBulkAll [d0] ≤ 1048576) :
    Calls Tryd.prog 3 #[v0] W' fun e w' => e = .returned (.bool true) ∧ Below W'.heap.size W' w' := by
  subst hW
  obtain ⟨a0, len, cap0, rfl⟩ := WideShapes.okWide_slice Tryd.underlying22 hv
  obtain ⟨fuel, hf⟩ := h0
  obtain ⟨a, cap, l, hcs, hC, hll, ht⟩ := open_code hf
  simp only [Value.cells, List.cons.injEq, and_true] at hcs
  rw [hcs]
  simp only [Rows.uptoBulkAll] at hbulk
  exact flowAhead_go l a cap W' hC (forms_of_laid hL (by kernel_rfl)) (fun x hx => by have := (ht x hx).1; omega) (by omega)
end Go.Proofs.YtpdbhfacglojjaaDoor
