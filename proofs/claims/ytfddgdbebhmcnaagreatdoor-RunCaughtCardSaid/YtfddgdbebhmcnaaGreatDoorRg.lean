import Derived.Test.YtfddgdbebhmcnaaGreatDoorRc
import Derived.Test.YtfddgdbebhmcnaaGreatDoorRa
namespace Go.Proofs.YtfddgdbebhmcnaaGreatDoor
set_option maxRecDepth 100000
set_option maxHeartbeats 8000000
set_option linter.unusedVariables false
set_option linter.unusedSimpArgs false
open Go.RowKit Go.Shelf Go.Lib
def faultP : List PanicEntry := [{ v := .iface 189 (.agg #[]), recovered := false }]
theorem rneed_true (w : World) : Calls Tryz.prog 124 #[.bool true] w fun e w' => e = .returned (.tuple #[]) ∧ w' = w := by
 go_enter Tryz.func124, Tryz.ntmps124
 go_wp2_with fail
 go_end0
 exact ⟨rfl, rfl⟩
theorem rneed_false (w : World) : Calls Tryz.prog 124 #[.bool false] w fun e w' => e = .panicked faultP ∧ w' = w := by
 go_enter Tryz.func124, Tryz.ntmps124
 go_wp2_with fail
 exact ⟨rfl, rfl, rfl⟩
theorem rkind_int (w : World) : Calls Tryz.prog 174 #[.string ⟨⟨[73]⟩⟩] w fun e w' => e = .returned (.int .i64 1) ∧ w = w' := by
 go_enter Tryz.func174, Tryz.ntmps174
 go_wp2_with fail
 go_ret
 exact ⟨rfl, rfl⟩
def Is32 (a : Int) : Prop := -2147483648 ≤ a ∧ a ≤ 2147483647
theorem is32_wrap (a : Int) : Is32 (wrap32 a) := by unfold Is32 wrap32; omega
theorem wrap32_self {a : Int} (h : Is32 a) : wrap32 a = a := by unfold Is32 at h; unfold wrap32; omega
theorem tdiv_bound {a b : Int} (h : Is32 a) : -2147483648 ≤ a.tdiv b ∧ a.tdiv b ≤ 2147483648 := by
 have h1 := Int.natAbs_tdiv_le_natAbs a b
 unfold Is32 at h
 omega
def quo32 (a b : Int) : Int := wrap32 (a.tdiv b)
theorem whole_div (a b : Int) (hb : b ≠ 0) (ha : Is32 a) (w : World) : Calls Tryz.prog 100 #[.int .i64 4, .int .i64 a, .int .i64 b] w fun e w' => e = .returned (.tuple #[.int .i64 (a.tdiv b), .bool true]) ∧ w = w' := by
 have h0 : (b == 0) = false := by rw [beq_eq_false_iff_ne]; exact hb
 have hw : wrap64 (a.tdiv b) = a.tdiv b := by have := tdiv_bound (b := b) ha; unfold wrap64; omega
 clear ha
 go_enter Tryz.func100, Tryz.ntmps100
 go_wp2_with fail
 go_ret2
 exact ⟨by show Ending.returned (.tuple #[.int .i64 (wrap64 (a.tdiv b)), .bool true]) = _; rw [hw], rfl⟩
theorem whole_div0 (a : Int) (w : World) : Calls Tryz.prog 100 #[.int .i64 4, .int .i64 a, .int .i64 0] w fun e w' => e = .returned (.tuple #[.int .i64 0, .bool false]) ∧ w = w' := by
 go_enter Tryz.func100, Tryz.ntmps100
 go_wp2_with fail
 go_ret2
 exact ⟨rfl, rfl⟩
theorem of_div (a b : Int) (hb : b ≠ 0) (ha : Is32 a) (w : World) : Calls Tryz.prog 56 #[.string ⟨⟨[73]⟩⟩, .int .i64 4, .int .i64 a, .int .i64 b] w fun e w' => e = .returned (.tuple #[.int .i64 (quo32 a b), .bool true]) ∧ w = w' := by
 have HW := Hd (fun w => whole_div a b hb ha w)
 have HWD := Hd (fun x w => hword_calls x w)
 clear hb ha
 go_enter Tryz.func56, Tryz.ntmps56
 go_wp2_with fail
 refine (HW.out _).mono ?_
 rintro e w2 ⟨rfl, rfl⟩
 go_wp2_with fail
 refine (HWD.out _ _).mono ?_
 rintro e w2 ⟨rfl, rfl⟩
 go_wp2_with fail
 go_ret2
 exact ⟨rfl, rfl⟩
theorem of_div0 (a : Int) (w : World) : Calls Tryz.prog 56 #[.string ⟨⟨[73]⟩⟩, .int .i64 4, .int .i64 a, .int .i64 0] w fun e w' => e = .returned (.tuple #[.int .i64 0, .bool false]) ∧ w = w' := by
 have HW := Hd (fun w => whole_div0 a w)
 have HWD := Hd (fun x w => hword_calls x w)
 go_enter Tryz.func56, Tryz.ntmps56
 go_wp2_with fail
 refine (HW.out _).mono ?_
 rintro e w2 ⟨rfl, rfl⟩
 go_wp2_with fail
 refine (HWD.out _ _).mono ?_
 rintro e w2 ⟨rfl, rfl⟩
 go_wp2_with fail
 go_ret2
 exact ⟨by show Ending.returned (.tuple #[.int .i64 (wrap32 0), .bool false]) = _; rw [show wrap32 0 = 0 by unfold wrap32; omega], rfl⟩
theorem number_int (w : World) : Calls Tryz.prog 54 #[.string ⟨⟨[73]⟩⟩] w fun e w' => e = .returned (.bool true) ∧ w = w' := by
 go_enter Tryz.func54, Tryz.ntmps54
 go_wp2_with fail
 go_ret
 exact ⟨rfl, rfl⟩
theorem nmath_div (a b : Int) (hb : b ≠ 0) (ha : Is32 a) (hb2 : Is32 b) (w : World) : Calls Tryz.prog 24 #[.string ⟨⟨[73]⟩⟩, .int .i64 4, .int .i64 a, .int .i64 b] w fun e w' => e = .returned (.tuple #[.int .i64 (quo32 a b), .nilIface]) ∧ w = w' := by
 have HO := Hd (fun w => of_div a b hb ha w)
 have HA := Hd (fun w => show Calls Tryz.prog 55 #[.int .i64 a] w fun e w' => e = .returned (.int .i64 a) ∧ w = w' from by have := hword_calls a w; rwa [wrap32_self ha] at this)
 have HB := Hd (fun w => show Calls Tryz.prog 55 #[.int .i64 b] w fun e w' => e = .returned (.int .i64 b) ∧ w = w' from by have := hword_calls b w; rwa [wrap32_self hb2] at this)
 clear ha hb hb2
 go_enter Tryz.func24, Tryz.ntmps24
 go_wp2_with fail
 refine (number_int _).mono ?_
 rintro e w2 ⟨rfl, rfl⟩
 go_wp2_with fail
 refine (HA.out _).mono ?_
 rintro e w2 ⟨rfl, rfl⟩
 go_wp2_with fail
 refine (HB.out _).mono ?_
 rintro e w2 ⟨rfl, rfl⟩
 go_wp2_with fail
 refine (HO.out _).mono ?_
 rintro e w2 ⟨rfl, rfl⟩
 go_wp2_with fail
 go_ret2
 exact ⟨rfl, rfl⟩
open Go.Sort
theorem heaped_2 (K c : Nat) (ia ib : Int) (ty cl nm : Nm) (w : World) :
   Calls Tryz.prog 126 #[.pointer (some ⟨K, 0, none⟩), .pointer (some ⟨c, 0, none⟩), .agg #[.int .i64 2, .int .i64 ia, .int .i64 ib, .string ⟨⟨ty⟩⟩, .string ⟨⟨cl⟩⟩, .string ⟨⟨nm⟩⟩]] w fun e w' => e = .returned (.tuple #[]) ∧ Below w.heap.size w w' := by
 have HB := Hd (fun o => bl_alloc (Below.refl w.heap.size w) o)
 go_enter Tryz.func126, Tryz.ntmps126
 go_wp2_with fail
 go_end0
 exact ⟨rfl, HB.out _⟩
theorem heaped_6 (K c : Nat) (ia ib : Int) (ty cl nm : Nm) (w : World) :
   Calls Tryz.prog 126 #[.pointer (some ⟨K, 0, none⟩), .pointer (some ⟨c, 0, none⟩), .agg #[.int .i64 6, .int .i64 ia, .int .i64 ib, .string ⟨⟨ty⟩⟩, .string ⟨⟨cl⟩⟩, .string ⟨⟨nm⟩⟩]] w fun e w' => e = .returned (.tuple #[]) ∧ Below w.heap.size w w' := by
 have HB := Hd (fun o => bl_alloc (Below.refl w.heap.size w) o)
 go_enter Tryz.func126, Tryz.ntmps126
 go_wp2_with fail
 go_end0
 exact ⟨rfl, HB.out _⟩
theorem heaped_9 (K c : Nat) (ia ib : Int) (ty cl nm : Nm) (w : World) :
   Calls Tryz.prog 126 #[.pointer (some ⟨K, 0, none⟩), .pointer (some ⟨c, 0, none⟩), .agg #[.int .i64 9, .int .i64 ia, .int .i64 ib, .string ⟨⟨ty⟩⟩, .string ⟨⟨cl⟩⟩, .string ⟨⟨nm⟩⟩]] w fun e w' => e = .returned (.tuple #[]) ∧ Below w.heap.size w w' := by
 have HB := Hd (fun o => bl_alloc (Below.refl w.heap.size w) o)
 go_enter Tryz.func126, Tryz.ntmps126
 go_wp2_with fail
 go_end0
 exact ⟨rfl, HB.out _⟩
theorem plain_push (B c lb : Nat) (cl : Nm) (m : MethR) (q : MAddr) (p : Nat) (a ib : Int) (lo st : List ValR) (cn nm : Nm) (lq sq : HA) (w : World) (h : CallAt w B c lb cl m q p lo st lq sq) (hp : p ≤ 1000) (hl : st.length ≤ 1000) :
   Calls Tryz.prog 125 #[.pointer (some ⟨c, 0, none⟩), .agg #[.int .i64 2, .int .i64 a, .int .i64 ib, .string ⟨⟨[73]⟩⟩, .string ⟨⟨cn⟩⟩, .string ⟨⟨nm⟩⟩]] w (PRes B c lb cl m q p lo st lo (st ++ [⟨1, a⟩]) lq sq ((p : Int) + 1) w) := by
 obtain ⟨W, hW⟩ : ∃ W, W = w.alloc (.cells #[.int .i64 2, .int .i64 a, .int .i64 ib, .string ⟨⟨[73]⟩⟩, .string ⟨⟨cn⟩⟩, .string ⟨⟨nm⟩⟩] 35) := ⟨_, rfl⟩
 have hbW : Below w.heap.size w W := by rw [hW]; exact bl_alloc (Below.refl _ _) _
 have HX := Hd (show Blk W w.heap.size 35 #[.int .i64 2, .int .i64 a, .int .i64 ib, .string ⟨⟨[73]⟩⟩, .string ⟨⟨cn⟩⟩, .string ⟨⟨nm⟩⟩] by rw [hW]; exact blk_new _ _ _ _ rfl)
 have HS := Hd (h.below hbW)
 have HBW := Hd hbW
 have c9 := HS.out.blk.cell 9
 have c12 := HS.out.blk.lt
 have x0 := HX.out.cell 0
 have x1 := HX.out.cell 1
 have x3 := HX.out.cell 3
 have x9 := HX.out.lt
 unfold rcArr at c9
 have HPU := Hd (fun W' (hw : Below W.heap.size W W') => rput_calls B c lb cl m q p lo st ⟨1, a⟩ lq sq W' (HS.out.below hw) hl)
 unfold vV at HPU
 have HSC := Hd (fun W' (hw : Below W.heap.size W W') => (show W'.cell? ⟨w.heap.size, 1, none⟩ = some (.int .i64 a) ∧ W'.cell? ⟨w.heap.size, 3, none⟩ = some (.string ⟨⟨[73]⟩⟩) from ⟨(HX.out.below hw).cell 1, (HX.out.below hw).cell 3⟩))
 have HCK := Hd (fun (W' W4 : World) (hw : Below W.heap.size W W') (hk : KbR c lb (hsV st sq) W' W4) => (show W4.cell? ⟨w.heap.size, 1, none⟩ = some (.int .i64 a) ∧ W4.cell? ⟨w.heap.size, 3, none⟩ = some (.string ⟨⟨[73]⟩⟩) from by
   obtain ⟨n1, n2, n3⟩ := (HS.out.below hw).apart (HX.out.below hw) (by decide) (by decide)
   have hb := (hk.block _ (HX.out.below hw).lt n1 n2 n3).trans (HX.out.below hw)
   have hb' : Blk W4 w.heap.size 35 _ := hb
   exact ⟨hb'.cell 1, hb'.cell 3⟩))
 clear h hbW
 go_enter Tryz.func125, Tryz.ntmps125
 go_upto_region 1 with fail
 rw [← hW]
 clear hW
 go_upto_region 4 with fail
 go_region_held3 (fun W' => W'.cell? ⟨w.heap.size, 1, none⟩ = some (.int .i64 a) ∧ W'.cell? ⟨w.heap.size, 3, none⟩ = some (.string ⟨⟨[73]⟩⟩))
   (first | exact HSC.out _ (Below.refl _ _) | exact HSC.out _ (Below.refl _ _).drew | exact hs4)
   ((first
   | (go_at_call 174
      refine (rkind_int _).mono ?_
      rintro e wz ⟨rfl, rfl⟩)
   | (go_at_call 173
      refine (HPU.out _ (by first | exact Below.refl _ _ | exact (Below.refl _ _).drew)).mono ?_
      rintro e w4 ⟨rfl, sq', hc4, hk4, hv4⟩
      have hs4 := HCK.out _ w4 (by first | exact Below.refl _ _ | exact (Below.refl _ _).drew) hk4)))
 all_goals
   have HC4 := Hd hc4
   have HK4 := Hd (show KbR c lb (hsV st sq) w w4 from (KbR.of_below HBW.out).trans ((KbR.of_below (Below.refl _ _).drew).trans hk4 (VUp.refl _ _)) (VUp.refl _ _))
   have HV4 := Hd (show VUp w (hsV st sq) (hsV (st ++ [⟨1, a⟩]) sq') from by
     rcases hv4 with h | h
     · exact Or.inl h
     · exact Or.inr (fun k hk => Nat.le_trans HBW.out.size (h k hk)))
   clear hc4 hk4 hv4 hs4 c9 x0 x1 x3
   go_wp2_with fail
   go_ret
   exact ⟨rfl, sq', HC4.out, HK4.out, HV4.out⟩
theorem own_len {a : Option Addr} {n n' c c' : Nat} : (Value.slice a n c).ownBlock = (Value.slice a n' c').ownBlock := by cases a <;> rfl
theorem math_div (B c lb : Nat) (cl : Nm) (m : MethR) (q : MAddr) (pc : Int) (lo st : List ValR) (x y : ValR) (ib : Int) (cn nm : Nm) (lq sq : HA) (w : World) (h : CallAt w B c lb cl m q pc lo (st ++ [x] ++ [y]) lq sq) (hl : st.length ≤ 900) (hy : y.n ≠ 0) (hx : Is32 x.n) :
   Calls Tryz.prog 175 #[.pointer (some ⟨c, 0, none⟩), .agg #[.int .i64 9, .int .i64 4, .int .i64 ib, .string ⟨⟨[73]⟩⟩, .string ⟨⟨cn⟩⟩, .string ⟨⟨nm⟩⟩]] w fun e w' => e = .returned (.tuple #[]) ∧ ∃ sq', CallAt w' B c lb cl m q pc lo (st ++ [⟨1, quo32 x.n y.n⟩]) lq sq' ∧ KbR c lb (hsV (st ++ [x] ++ [y]) sq) w w' ∧ VUp w (hsV (st ++ [x] ++ [y]) sq) (hsV (st ++ [⟨1, quo32 x.n y.n⟩]) sq') := by
 have hfd : ∀ (a b : Int) (W : World), (Instr.field 42 (.agg #[.int .i64 a, .int .i64 b]) 1).run Tryz.prog W = .ok (.int .i64 b) W := fun _ _ _ => by kernel_rfl
 obtain ⟨W, hW⟩ : ∃ W, W = (w.alloc (.cells #[.int .i64 9, .int .i64 4, .int .i64 ib, .string ⟨⟨[73]⟩⟩, .string ⟨⟨cn⟩⟩, .string ⟨⟨nm⟩⟩] 35)).alloc (.cells #[.int .i64 0, .int .i64 0] 42) := ⟨_, rfl⟩
 have hbW : Below w.heap.size w W := by rw [hW]; exact bl_alloc (bl_alloc (Below.refl _ _) _) _
 have HX := Hd (show Blk W w.heap.size 35 #[.int .i64 9, .int .i64 4, .int .i64 ib, .string ⟨⟨[73]⟩⟩, .string ⟨⟨cn⟩⟩, .string ⟨⟨nm⟩⟩] by rw [hW]; exact (blk_new _ _ _ _ rfl).alloc _)
 have HV := Hd (show Blk W (w.heap.size + 1) 42 #[.int .i64 0, .int .i64 0] by rw [hW]; exact blk_new _ _ _ _ (by simp))
 have HS := Hd (h.below hbW)
 have HBW := Hd hbW
 have hcw : c < w.heap.size := h.blk.lt
 have HP1 := Hd (rpop_calls B c lb cl m q pc lo (st ++ [x]) y lq sq W HS.out (by simp; omega))
 have HLB := Hd (show lb < w.heap.size from by
   rcases h.lb with e | ⟨_, e⟩
   · exact (h.low.lt _ e).2
   · rw [e]; exact hcw)
 have HSQ := Hd (show ∀ k, (hsV (st ++ [x] ++ [y]) sq).ownBlock = some k → k < w.heap.size from fun k hk => (h.sow.lt k hk).2)
 have x1 := HX.out.cell 1
 have x9 := HX.out.lt
 clear h hbW
 unfold vV at HP1
 go_enter Tryz.func175, Tryz.ntmps175
 go_upto_region 2 with fail
 rw [← hW]
 clear hW
 go_wp2_with fail
 refine HP1.out.mono ?_
 rintro e w2 ⟨rfl, hc2, hg2⟩
 have hV2 := gb_blk hg2 HV.out (by omega)
 have HX2 := Hd (gb_blk hg2 HX.out (by omega))
 have v0 := hV2.cell 0
 have v1 := hV2.cell 1
 have v2 := hV2.frozen 0
 have v3 := hV2.frozen 1
 have v4 := hV2.lt
 obtain ⟨w3, hw3⟩ : ∃ w3, w3 = (w2.setCell ⟨w.heap.size + 1, 0, none⟩ (.int .i64 y.kind)).setCell ⟨w.heap.size + 1, 1, none⟩ (.int .i64 y.n) := ⟨_, rfl⟩
 have hb23 : w2.grownBy w3 (some (w.heap.size + 1)) := by rw [hw3]; exact gb_set (gb_set (gb_refl _ _) 0 _) 1 _
 have HV3 := Hd (show Blk w3 (w.heap.size + 1) 42 #[.int .i64 y.kind, .int .i64 y.n] by rw [hw3]; exact blk_set (blk_set hV2 0 _) 1 _)
 have HX3 := Hd (gb_blk hb23 HX2.out (by omega))
 have HC3 := Hd (show CallAt w3 B c lb cl m q pc lo (st ++ [x]) lq sq from
   ⟨gb_blk hb23 hc2.blk (by omega), own_keep2 hc2.low (fun g hg => hb23.block g (hc2.low.lt g hg).2 (fun e => by
     have h1 : g = w.heap.size + 1 := by simpa using e
     rcases hc2.lb with e2 | ⟨e2, _⟩
     · rw [hg] at e2; have := HLB.out; simp at e2; omega
     · rw [hg] at e2; cases e2)), own_keep2 hc2.sow (fun g hg => hb23.block g (hc2.sow.lt g hg).2 (fun e => by
     have h1 : g = w.heap.size + 1 := by simpa using e
     have h2 := HSQ.out g (own_len.trans hg)
     omega)), hc2.ap, hc2.lb, hc2.cB⟩)
 have HK3 := Hd (show KbR c lb (hsV (st ++ [x] ++ [y]) sq) w w3 from ⟨(hb23.os.trans hg2.os).trans HBW.out.os, (hb23.tape.trans hg2.tape).trans HBW.out.tape, (hb23.output.trans hg2.output).trans HBW.out.output, Nat.le_trans HBW.out.size (Nat.le_trans hg2.size hb23.size), fun k hk n1 n2 n3 => by
   have h1 := HBW.out.size
   have h2 := hg2.size
   rw [hb23.block k (by omega) (by intro e; simp at e; omega), hg2.block k (by omega) (by intro e; simp at e; exact n1 e), HBW.out.block k hk]⟩)
 have HPO := Hd (fun W' (hw : Below w3.heap.size w3 W') => rpop_calls B c lb cl m q pc lo st x lq sq W' (HC3.out.below hw) (by omega))
 have HSC := Hd (fun W' (hw : Below w3.heap.size w3 W') => (show W'.cell? ⟨w.heap.size, 1, none⟩ = some (.int .i64 4) ∧ W'.cell? ⟨w.heap.size, 3, none⟩ = some (.string ⟨⟨[73]⟩⟩) ∧ W'.cell? ⟨w.heap.size + 1, 1, none⟩ = some (.int .i64 y.n) from ⟨(HX3.out.below hw).cell 1, (HX3.out.below hw).cell 3, (HV3.out.below hw).cell 1⟩))
 have HSG := Hd (fun (W' W4 : World) (hw : Below w3.heap.size w3 W') (hg : W'.grownBy W4 (some c)) => (show W4.cell? ⟨w.heap.size, 1, none⟩ = some (.int .i64 4) ∧ W4.cell? ⟨w.heap.size, 3, none⟩ = some (.string ⟨⟨[73]⟩⟩) ∧ W4.cell? ⟨w.heap.size + 1, 1, none⟩ = some (.int .i64 y.n) from
   have hx := gb_blk hg (HX3.out.below hw) (by omega)
   have hv := gb_blk hg (HV3.out.below hw) (by omega)
   ⟨hx.cell 1, hx.cell 3, hv.cell 1⟩))
 have HOF := Hd (fun W => of_div x.n y.n hy hx W)
 have HGK := Hd (fun (W' W4 : World) (hw : Below w3.heap.size w3 W') (hg : W'.grownBy W4 (some c)) => show KbR c lb (hsV (st ++ [x] ++ [y]) sq) w W4 ∧ w.heap.size < W4.heap.size from
   ⟨HK3.out.trans ((KbR.of_below hw).trans ⟨hg.os, hg.tape, hg.output, hg.size, fun k hk n1 _ _ => hg.block k hk (by intro e; simp at e; exact n1 e)⟩ (VUp.refl _ _)) (VUp.refl _ _), by have := HX3.out.lt; have := hw.size; have := hg.size; omega⟩)
 unfold vV at HPO
 clear hc2 hg2 hV2 hb23 x1 x9
 go_upto_region 4 with fail
 rw [← hw3]
 clear hw3 v0 v1 v2 v3 v4
 go_region_held3 (fun W' => W'.cell? ⟨w.heap.size, 1, none⟩ = some (.int .i64 4) ∧ W'.cell? ⟨w.heap.size, 3, none⟩ = some (.string ⟨⟨[73]⟩⟩) ∧ W'.cell? ⟨w.heap.size + 1, 1, none⟩ = some (.int .i64 y.n))
   (first | exact HSC.out _ (Below.refl _ _) | exact HSC.out _ (Below.refl _ _).drew | exact hs4)
   ((first
   | (go_at_call 123
      refine (HPO.out _ (by first | exact Below.refl _ _ | exact (Below.refl _ _).drew)).mono ?_
      rintro e w4 ⟨rfl, hc4, hg4⟩
      have hs4 := HSG.out _ w4 (by first | exact Below.refl _ _ | exact (Below.refl _ _).drew) hg4
      have hk4 := HGK.out _ w4 (by first | exact Below.refl _ _ | exact (Below.refl _ _).drew) hg4)
   | (go_at_call 56
      refine (HOF.out _).mono ?_
      rintro e wz ⟨rfl, rfl⟩)))
 all_goals
   have HC4 := Hd hc4
   have HK4 := Hd hk4
   have x3 := hs4.2.1
   have x9 := hk4.2
   clear hc4 hg4 hk4 hs4
   have HPU := Hd (rput_calls B c lb cl m q pc lo st ⟨1, quo32 x.n y.n⟩ lq sq w4 HC4.out (by omega))
   unfold vV at HPU
   go_wp2_with fail
   refine (rneed_true _).mono ?_
   rintro e w5 ⟨rfl, rfl⟩
   go_wp2_with fail
   refine (rkind_int _).mono ?_
   rintro e wz ⟨rfl, rfl⟩
   go_wp2_with fail
   refine HPU.out.mono ?_
   rintro e w6 ⟨rfl, sq', hc6, hk6, hv6⟩
   have HC6 := Hd hc6
   have HK6 := Hd (HK4.out.1.trans (v1 := hsV st sq) hk6 (Or.inl own_len))
   have HV6 := Hd (show VUp w (hsV (st ++ [x] ++ [y]) sq) (hsV (st ++ [⟨1, quo32 x.n y.n⟩]) sq') from VUp.trans (v1 := hsV st sq) (Or.inl own_len) hv6 HK4.out.1.size)
   clear hc6 hk6 hv6
   go_wp2_with fail
   go_end0
   exact ⟨rfl, sq', HC6.out, HK6.out, HV6.out⟩
theorem math_bad (B c lb : Nat) (cl : Nm) (m : MethR) (q : MAddr) (pc : Int) (lo st : List ValR) (x y : ValR) (ib : Int) (cn nm : Nm) (lq sq : HA) (w : World) (h : CallAt w B c lb cl m q pc lo (st ++ [x] ++ [y]) lq sq) (hl : st.length ≤ 900) (hy : y.n = 0) :
   Calls Tryz.prog 175 #[.pointer (some ⟨c, 0, none⟩), .agg #[.int .i64 9, .int .i64 4, .int .i64 ib, .string ⟨⟨[73]⟩⟩, .string ⟨⟨cn⟩⟩, .string ⟨⟨nm⟩⟩]] w fun e w' => e = .panicked faultP ∧ CallAt w' B c lb cl m q pc lo st lq sq ∧ KbR c lb (hsV (st ++ [x] ++ [y]) sq) w w' ∧ VUp w (hsV (st ++ [x] ++ [y]) sq) (hsV st sq) := by
 have HY := Hd hy
 clear hy
 have hfd : ∀ (a b : Int) (W : World), (Instr.field 42 (.agg #[.int .i64 a, .int .i64 b]) 1).run Tryz.prog W = .ok (.int .i64 b) W := fun _ _ _ => by kernel_rfl
 obtain ⟨W, hW⟩ : ∃ W, W = (w.alloc (.cells #[.int .i64 9, .int .i64 4, .int .i64 ib, .string ⟨⟨[73]⟩⟩, .string ⟨⟨cn⟩⟩, .string ⟨⟨nm⟩⟩] 35)).alloc (.cells #[.int .i64 0, .int .i64 0] 42) := ⟨_, rfl⟩
 have hbW : Below w.heap.size w W := by rw [hW]; exact bl_alloc (bl_alloc (Below.refl _ _) _) _
 have HX := Hd (show Blk W w.heap.size 35 #[.int .i64 9, .int .i64 4, .int .i64 ib, .string ⟨⟨[73]⟩⟩, .string ⟨⟨cn⟩⟩, .string ⟨⟨nm⟩⟩] by rw [hW]; exact (blk_new _ _ _ _ rfl).alloc _)
 have HV := Hd (show Blk W (w.heap.size + 1) 42 #[.int .i64 0, .int .i64 0] by rw [hW]; exact blk_new _ _ _ _ (by simp))
 have HS := Hd (h.below hbW)
 have HBW := Hd hbW
 have hcw : c < w.heap.size := h.blk.lt
 have HP1 := Hd (rpop_calls B c lb cl m q pc lo (st ++ [x]) y lq sq W HS.out (by simp; omega))
 have HLB := Hd (show lb < w.heap.size from by
   rcases h.lb with e | ⟨_, e⟩
   · exact (h.low.lt _ e).2
   · rw [e]; exact hcw)
 have HSQ := Hd (show ∀ k, (hsV (st ++ [x] ++ [y]) sq).ownBlock = some k → k < w.heap.size from fun k hk => (h.sow.lt k hk).2)
 have x1 := HX.out.cell 1
 have x9 := HX.out.lt
 clear h hbW
 unfold vV at HP1
 go_enter Tryz.func175, Tryz.ntmps175
 go_upto_region 2 with fail
 rw [← hW]
 clear hW
 go_wp2_with fail
 refine HP1.out.mono ?_
 rintro e w2 ⟨rfl, hc2, hg2⟩
 have hV2 := gb_blk hg2 HV.out (by omega)
 have HX2 := Hd (gb_blk hg2 HX.out (by omega))
 have v0 := hV2.cell 0
 have v1 := hV2.cell 1
 have v2 := hV2.frozen 0
 have v3 := hV2.frozen 1
 have v4 := hV2.lt
 obtain ⟨w3, hw3⟩ : ∃ w3, w3 = (w2.setCell ⟨w.heap.size + 1, 0, none⟩ (.int .i64 y.kind)).setCell ⟨w.heap.size + 1, 1, none⟩ (.int .i64 y.n) := ⟨_, rfl⟩
 have hb23 : w2.grownBy w3 (some (w.heap.size + 1)) := by rw [hw3]; exact gb_set (gb_set (gb_refl _ _) 0 _) 1 _
 have HV3 := Hd (show Blk w3 (w.heap.size + 1) 42 #[.int .i64 y.kind, .int .i64 y.n] by rw [hw3]; exact blk_set (blk_set hV2 0 _) 1 _)
 have HX3 := Hd (gb_blk hb23 HX2.out (by omega))
 have HC3 := Hd (show CallAt w3 B c lb cl m q pc lo (st ++ [x]) lq sq from
   ⟨gb_blk hb23 hc2.blk (by omega), own_keep2 hc2.low (fun g hg => hb23.block g (hc2.low.lt g hg).2 (fun e => by
     have h1 : g = w.heap.size + 1 := by simpa using e
     rcases hc2.lb with e2 | ⟨e2, _⟩
     · rw [hg] at e2; have := HLB.out; simp at e2; omega
     · rw [hg] at e2; cases e2)), own_keep2 hc2.sow (fun g hg => hb23.block g (hc2.sow.lt g hg).2 (fun e => by
     have h1 : g = w.heap.size + 1 := by simpa using e
     have h2 := HSQ.out g (own_len.trans hg)
     omega)), hc2.ap, hc2.lb, hc2.cB⟩)
 have HK3 := Hd (show KbR c lb (hsV (st ++ [x] ++ [y]) sq) w w3 from ⟨(hb23.os.trans hg2.os).trans HBW.out.os, (hb23.tape.trans hg2.tape).trans HBW.out.tape, (hb23.output.trans hg2.output).trans HBW.out.output, Nat.le_trans HBW.out.size (Nat.le_trans hg2.size hb23.size), fun k hk n1 n2 n3 => by
   have h1 := HBW.out.size
   have h2 := hg2.size
   rw [hb23.block k (by omega) (by intro e; simp at e; omega), hg2.block k (by omega) (by intro e; simp at e; exact n1 e), HBW.out.block k hk]⟩)
 have HPO := Hd (fun W' (hw : Below w3.heap.size w3 W') => rpop_calls B c lb cl m q pc lo st x lq sq W' (HC3.out.below hw) (by omega))
 have HSC := Hd (fun W' (hw : Below w3.heap.size w3 W') => (show W'.cell? ⟨w.heap.size, 1, none⟩ = some (.int .i64 4) ∧ W'.cell? ⟨w.heap.size, 3, none⟩ = some (.string ⟨⟨[73]⟩⟩) ∧ W'.cell? ⟨w.heap.size + 1, 1, none⟩ = some (.int .i64 0) from ⟨(HX3.out.below hw).cell 1, (HX3.out.below hw).cell 3, by have := (HV3.out.below hw).cell 1; rwa [HY.out] at this⟩))
 have HSG := Hd (fun (W' W4 : World) (hw : Below w3.heap.size w3 W') (hg : W'.grownBy W4 (some c)) => (show W4.cell? ⟨w.heap.size, 1, none⟩ = some (.int .i64 4) ∧ W4.cell? ⟨w.heap.size, 3, none⟩ = some (.string ⟨⟨[73]⟩⟩) ∧ W4.cell? ⟨w.heap.size + 1, 1, none⟩ = some (.int .i64 0) from
   have hx := gb_blk hg (HX3.out.below hw) (by omega)
   have hv := gb_blk hg (HV3.out.below hw) (by omega)
   ⟨hx.cell 1, hx.cell 3, by have := hv.cell 1; rwa [HY.out] at this⟩))
 have HOF := Hd (fun W => of_div0 x.n W)
 have HGK := Hd (fun (W' W4 : World) (hw : Below w3.heap.size w3 W') (hg : W'.grownBy W4 (some c)) => show KbR c lb (hsV (st ++ [x] ++ [y]) sq) w W4 ∧ w.heap.size < W4.heap.size from
   ⟨HK3.out.trans ((KbR.of_below hw).trans ⟨hg.os, hg.tape, hg.output, hg.size, fun k hk n1 _ _ => hg.block k hk (by intro e; simp at e; exact n1 e)⟩ (VUp.refl _ _)) (VUp.refl _ _), by have := HX3.out.lt; have := hw.size; have := hg.size; omega⟩)
 unfold vV at HPO
 clear hc2 hg2 hV2 hb23 x1 x9
 go_upto_region 4 with fail
 rw [← hw3]
 clear hw3 v0 v1 v2 v3 v4
 go_region_held3 (fun W' => W'.cell? ⟨w.heap.size, 1, none⟩ = some (.int .i64 4) ∧ W'.cell? ⟨w.heap.size, 3, none⟩ = some (.string ⟨⟨[73]⟩⟩) ∧ W'.cell? ⟨w.heap.size + 1, 1, none⟩ = some (.int .i64 0))
   (first | exact HSC.out _ (Below.refl _ _) | exact HSC.out _ (Below.refl _ _).drew | exact hs4)
   ((first
   | (go_at_call 123
      refine (HPO.out _ (by first | exact Below.refl _ _ | exact (Below.refl _ _).drew)).mono ?_
      rintro e w4 ⟨rfl, hc4, hg4⟩
      have hs4 := HSG.out _ w4 (by first | exact Below.refl _ _ | exact (Below.refl _ _).drew) hg4
      have hk4 := HGK.out _ w4 (by first | exact Below.refl _ _ | exact (Below.refl _ _).drew) hg4)
   | (go_at_call 56
      refine (HOF.out _).mono ?_
      rintro e wz ⟨rfl, rfl⟩)))
 all_goals
   have HC4 := Hd hc4
   have HK4 := Hd hk4
   have x3 := hs4.2.1
   have x9 := hk4.2
   clear hc4 hg4 hk4 hs4
   go_wp2_with fail
   refine (rneed_false _).mono ?_
   rintro e w5 ⟨rfl, rfl⟩
   go_wp2_with fail
   exact ⟨rfl, rfl, HC4.out, HK4.out.1, (Or.inl own_len)⟩
theorem plain_div (B c lb : Nat) (cl : Nm) (m : MethR) (q : MAddr) (p : Nat) (lo st : List ValR) (x y : ValR) (ib : Int) (cn nm : Nm) (lq sq : HA) (w : World) (h : CallAt w B c lb cl m q p lo (st ++ [x] ++ [y]) lq sq) (hp : p ≤ 1000) (hl : st.length ≤ 900) (hy : y.n ≠ 0) (hx : Is32 x.n) :
   Calls Tryz.prog 125 #[.pointer (some ⟨c, 0, none⟩), .agg #[.int .i64 9, .int .i64 4, .int .i64 ib, .string ⟨⟨[73]⟩⟩, .string ⟨⟨cn⟩⟩, .string ⟨⟨nm⟩⟩]] w (PRes B c lb cl m q p lo (st ++ [x] ++ [y]) lo (st ++ [⟨1, quo32 x.n y.n⟩]) lq sq ((p : Int) + 1) w) := by
 obtain ⟨W, hW⟩ : ∃ W, W = w.alloc (.cells #[.int .i64 9, .int .i64 4, .int .i64 ib, .string ⟨⟨[73]⟩⟩, .string ⟨⟨cn⟩⟩, .string ⟨⟨nm⟩⟩] 35) := ⟨_, rfl⟩
 have hbW : Below w.heap.size w W := by rw [hW]; exact bl_alloc (Below.refl _ _) _
 have HX := Hd (show Blk W w.heap.size 35 #[.int .i64 9, .int .i64 4, .int .i64 ib, .string ⟨⟨[73]⟩⟩, .string ⟨⟨cn⟩⟩, .string ⟨⟨nm⟩⟩] by rw [hW]; exact blk_new _ _ _ _ rfl)
 have HS := Hd (h.below hbW)
 have HBW := Hd hbW
 have c9 := HS.out.blk.cell 9
 have c12 := HS.out.blk.lt
 have x0 := HX.out.cell 0
 have x1 := HX.out.cell 1
 have x2 := HX.out.cell 2
 have x3 := HX.out.cell 3
 have x4 := HX.out.cell 4
 have x5 := HX.out.cell 5
 have x9 := HX.out.lt
 unfold rcArr at c9
 have HCA := Hd (math_div B c lb cl m q p lo st x y ib cn nm lq sq W HS.out hl hy hx)
 clear h hbW hy hx
 go_enter Tryz.func125, Tryz.ntmps125
 go_upto_region 1 with fail
 rw [← hW]
 clear hW
 go_wp2_with fail
 refine HCA.out.mono ?_
 rintro e w4 ⟨rfl, sq', hc4, hk4, hv4⟩
 have HC4 := Hd hc4
 have HK4 := Hd ((KbR.of_below HBW.out).trans hk4 (VUp.refl _ _))
 have HV4 := Hd (show VUp w (hsV (st ++ [x] ++ [y]) sq) (hsV (st ++ [⟨1, quo32 x.n y.n⟩]) sq') from by
   rcases hv4 with h | h
   · exact Or.inl h
   · exact Or.inr (fun k hk => Nat.le_trans HBW.out.size (h k hk)))
 clear hc4 hk4 hv4 c9 x0 x1 x2 x3 x4 x5
 go_wp2_with fail
 go_ret
 exact ⟨rfl, sq', HC4.out, HK4.out, HV4.out⟩
theorem plain_bad (B c lb : Nat) (cl : Nm) (m : MethR) (q : MAddr) (p : Nat) (lo st : List ValR) (x y : ValR) (ib : Int) (cn nm : Nm) (lq sq : HA) (w : World) (h : CallAt w B c lb cl m q p lo (st ++ [x] ++ [y]) lq sq) (hp : p ≤ 1000) (hl : st.length ≤ 900) (hy : y.n = 0) :
   Calls Tryz.prog 125 #[.pointer (some ⟨c, 0, none⟩), .agg #[.int .i64 9, .int .i64 4, .int .i64 ib, .string ⟨⟨[73]⟩⟩, .string ⟨⟨cn⟩⟩, .string ⟨⟨nm⟩⟩]] w fun e w' => e = .panicked faultP ∧ CallAt w' B c lb cl m q p lo st lq sq ∧ KbR c lb (hsV (st ++ [x] ++ [y]) sq) w w' ∧ VUp w (hsV (st ++ [x] ++ [y]) sq) (hsV st sq) := by
 obtain ⟨W, hW⟩ : ∃ W, W = w.alloc (.cells #[.int .i64 9, .int .i64 4, .int .i64 ib, .string ⟨⟨[73]⟩⟩, .string ⟨⟨cn⟩⟩, .string ⟨⟨nm⟩⟩] 35) := ⟨_, rfl⟩
 have hbW : Below w.heap.size w W := by rw [hW]; exact bl_alloc (Below.refl _ _) _
 have HX := Hd (show Blk W w.heap.size 35 #[.int .i64 9, .int .i64 4, .int .i64 ib, .string ⟨⟨[73]⟩⟩, .string ⟨⟨cn⟩⟩, .string ⟨⟨nm⟩⟩] by rw [hW]; exact blk_new _ _ _ _ rfl)
 have HS := Hd (h.below hbW)
 have HBW := Hd hbW
 have c9 := HS.out.blk.cell 9
 have c12 := HS.out.blk.lt
 have x0 := HX.out.cell 0
 have x1 := HX.out.cell 1
 have x2 := HX.out.cell 2
 have x3 := HX.out.cell 3
 have x4 := HX.out.cell 4
 have x5 := HX.out.cell 5
 have x9 := HX.out.lt
 unfold rcArr at c9
 have HCA := Hd (math_bad B c lb cl m q p lo st x y ib cn nm lq sq W HS.out hl hy)
 clear h hbW hy
 go_enter Tryz.func125, Tryz.ntmps125
 go_upto_region 1 with fail
 rw [← hW]
 clear hW
 go_wp2_with fail
 refine HCA.out.mono ?_
 rintro e w4 ⟨rfl, hc4, hk4, hv4⟩
 have HC4 := Hd hc4
 have HK4 := Hd ((KbR.of_below HBW.out).trans hk4 (VUp.refl _ _))
 clear hc4 hk4 hv4 c9 x0 x1 x2 x3 x4 x5
 go_wp2_with fail
 exact ⟨rfl, rfl, HC4.out, HK4.out, Or.inl own_len⟩
theorem plain_pop (B c lb : Nat) (cl : Nm) (m : MethR) (q : MAddr) (p : Nat) (lo st : List ValR) (x : ValR) (a : Int) (ty : Nm) (ib : Int) (cn nm : Nm) (lq sq : HA) (w : World) (h : CallAt w B c lb cl m q p lo (st ++ [x]) lq sq) (hp : p ≤ 1000) (hl : st.length ≤ 900) :
   Calls Tryz.prog 125 #[.pointer (some ⟨c, 0, none⟩), .agg #[.int .i64 6, .int .i64 a, .int .i64 ib, .string ⟨⟨ty⟩⟩, .string ⟨⟨cn⟩⟩, .string ⟨⟨nm⟩⟩]] w (PRes B c lb cl m q p lo (st ++ [x]) lo st lq sq ((p : Int) + 1) w) := by
 obtain ⟨W, hW⟩ : ∃ W, W = w.alloc (.cells #[.int .i64 6, .int .i64 a, .int .i64 ib, .string ⟨⟨ty⟩⟩, .string ⟨⟨cn⟩⟩, .string ⟨⟨nm⟩⟩] 35) := ⟨_, rfl⟩
 have hbW : Below w.heap.size w W := by rw [hW]; exact bl_alloc (Below.refl _ _) _
 have HX := Hd (show Blk W w.heap.size 35 #[.int .i64 6, .int .i64 a, .int .i64 ib, .string ⟨⟨ty⟩⟩, .string ⟨⟨cn⟩⟩, .string ⟨⟨nm⟩⟩] by rw [hW]; exact blk_new _ _ _ _ rfl)
 have HS := Hd (h.below hbW)
 have HBW := Hd hbW
 have c9 := HS.out.blk.cell 9
 have c12 := HS.out.blk.lt
 have x0 := HX.out.cell 0
 have x1 := HX.out.cell 1
 have x2 := HX.out.cell 2
 have x3 := HX.out.cell 3
 have x4 := HX.out.cell 4
 have x5 := HX.out.cell 5
 have x9 := HX.out.lt
 unfold rcArr at c9
 have HCA := Hd (rpop_calls B c lb cl m q p lo st x lq sq W HS.out (by omega))
 unfold vV at HCA
 clear h hbW
 go_enter Tryz.func125, Tryz.ntmps125
 go_upto_region 1 with fail
 rw [← hW]
 clear hW
 go_wp2_with fail
 refine HCA.out.mono ?_
 rintro e w4 ⟨rfl, hc4, hg4⟩
 have HC4 := Hd hc4
 have HK4 := Hd (show KbR c lb (hsV (st ++ [x]) sq) w w4 from (KbR.of_below HBW.out).trans ⟨hg4.os, hg4.tape, hg4.output, hg4.size, fun k hk n1 _ _ => hg4.block k hk (by intro e; simp at e; exact n1 e)⟩ (VUp.refl _ _))
 clear hc4 hg4 c9 x0 x1 x2 x3 x4 x5
 go_wp2_with fail
 go_ret
 exact ⟨rfl, sq, HC4.out, HK4.out, Or.inl own_len⟩
end Go.Proofs.YtfddgdbebhmcnaaGreatDoor
