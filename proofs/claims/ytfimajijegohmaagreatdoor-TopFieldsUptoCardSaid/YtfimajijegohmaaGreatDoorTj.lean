import Derived.Test.YtfimajijegohmaaGreatDoorRg
import Derived.Test.YtfimajijegohmaaGreatDoorTi
import Derived.Test.YtfimajijegohmaaGreatDoorRe
namespace Go.Proofs.YtfimajijegohmaaGreatDoor
set_option maxRecDepth 100000
set_option maxHeartbeats 8000000
set_option linter.unusedVariables false
set_option linter.unusedSimpArgs false
open Go.RowKit Go.Shelf Go.Lib Go.Sort
theorem whole_add (a b : Int) (h : -9223372036854775808 ≤ a + b ∧ a + b ≤ 9223372036854775807) (w : World) : Calls Tryz.prog 163 #[.int .i64 1, .int .i64 a, .int .i64 b] w fun e w' => e = .returned (.tuple #[.int .i64 (a + b), .bool true]) ∧ w = w' := by
 have hw : wrap64 (a + b) = a + b := by unfold wrap64; omega
 go_enter Tryz.func163, Tryz.ntmps163
 go_wp2_with fail
 go_ret2
 exact ⟨rfl, rfl⟩
theorem of_add (a b : Int) (ha : wrap32 a = a) (hb : wrap32 b = b) (w : World) : Calls Tryz.prog 85 #[.string ⟨⟨[73]⟩⟩, .int .i64 1, .int .i64 a, .int .i64 b] w fun e w' => e = .returned (.tuple #[.int .i64 (wrap32 (a + b)), .bool true]) ∧ w = w' := by
 have HW := Hd (fun w => whole_add a b (by unfold wrap32 at ha hb; omega) w)
 have HWD := Hd (fun x w => hword_calls x w)
 clear ha hb
 go_enter Tryz.func85, Tryz.ntmps85
 go_wp2_with fail
 refine (HW.out _).mono ?_
 rintro e w2 ⟨rfl, rfl⟩
 go_wp2_with fail
 refine (HWD.out _ _).mono ?_
 rintro e w2 ⟨rfl, rfl⟩
 go_wp2_with fail
 go_ret2
 exact ⟨rfl, rfl⟩
theorem own_len {a : Option Addr} {n n' c c' : Nat} : (Value.slice a n c).ownBlock = (Value.slice a n' c').ownBlock := by cases a <;> rfl
theorem math_two (B c lb : Nat) (cl : Nm) (m : MethR) (q : MAddr) (pc : Int) (lo st : List ValR) (x y : ValR) (ib : Int) (cn nm : Nm) (lq sq : HA) (w : World) (h : CallAt w B c lb cl m q pc lo (st ++ [x] ++ [y]) lq sq) (hl : st.length ≤ 900) (ia kd r : Int) (ty : Nm) (h12 : (ia == 12) = false) (hOf : ∀ W, Calls Tryz.prog 85 #[.string ⟨⟨ty⟩⟩, .int .i64 ia, .int .i64 x.n, .int .i64 y.n] W fun e w' => e = .returned (.tuple #[.int .i64 r, .bool true]) ∧ W = w') (hKd : ∀ W, Calls Tryz.prog 236 #[.string ⟨⟨ty⟩⟩] W fun e w' => e = .returned (.int .i64 kd) ∧ W = w') :
   Calls Tryz.prog 237 #[.pointer (some ⟨c, 0, none⟩), .agg #[.int .i64 9, .int .i64 ia, .int .i64 ib, .string ⟨⟨ty⟩⟩, .string ⟨⟨cn⟩⟩, .string ⟨⟨nm⟩⟩]] w fun e w' => e = .returned (.tuple #[]) ∧ ∃ sq', CallAt w' B c lb cl m q pc lo (st ++ [⟨kd, r⟩]) lq sq' ∧ KbR c lb (hsV (st ++ [x] ++ [y]) sq) w w' ∧ VUp w (hsV (st ++ [x] ++ [y]) sq) (hsV (st ++ [⟨kd, r⟩]) sq') := by
 have hfd : ∀ (a b : Int) (W : World), (Instr.field 42 (.agg #[.int .i64 a, .int .i64 b]) 1).run Tryz.prog W = .ok (.int .i64 b) W := fun _ _ _ => by kernel_rfl
 obtain ⟨W, hW⟩ : ∃ W, W = (w.alloc (.cells #[.int .i64 9, .int .i64 ia, .int .i64 ib, .string ⟨⟨ty⟩⟩, .string ⟨⟨cn⟩⟩, .string ⟨⟨nm⟩⟩] 35)).alloc (.cells #[.int .i64 0, .int .i64 0] 42) := ⟨_, rfl⟩
 have hbW : Below w.heap.size w W := by rw [hW]; exact bl_alloc (bl_alloc (Below.refl _ _) _) _
 have HX := Hd (show Blk W w.heap.size 35 #[.int .i64 9, .int .i64 ia, .int .i64 ib, .string ⟨⟨ty⟩⟩, .string ⟨⟨cn⟩⟩, .string ⟨⟨nm⟩⟩] by rw [hW]; exact (blk_new _ _ _ _ rfl).alloc _)
 have HV := Hd (show Blk W (w.heap.size + 1) 42 #[.int .i64 0, .int .i64 0] by rw [hW]; exact blk_new _ _ _ _ (by simp))
 have HS := Hd (h.below hbW)
 have HBW := Hd hbW
 have hcw : c < w.heap.size := h.blk.lt
 have HP1 := Hd (rpop_calls B c lb cl m q pc lo (st ++ [x]) y lq sq W HS.out (by simp; omega))
 have HLB := Hd (show lb < w.heap.size from by
   rcases h.lb with e | ⟨_, e⟩
   · exact (h.low.lt _ e).2
   · rw [e]; exact hcw)
 have HSQ := Hd (show ∀ k, (hsV (st ++ [x] ++ [y]) sq).ownBlock = some k → k < w.heap.size from fun k hk => (h.sow.lt k hk).2)
 have x1 := HX.out.cell 1
 have x9 := HX.out.lt
 clear h hbW
 unfold vV at HP1
 go_enter Tryz.func237, Tryz.ntmps237
 go_upto_region 2 with fail
 rw [← hW]
 clear hW
 go_wp2_with fail
 refine HP1.out.mono ?_
 rintro e w2 ⟨rfl, hc2, hg2⟩
 have hV2 := gb_blk hg2 HV.out (by omega)
 have HX2 := Hd (gb_blk hg2 HX.out (by omega))
 have v0 := hV2.cell 0
 have v1 := hV2.cell 1
 have v2 := hV2.frozen 0
 have v3 := hV2.frozen 1
 have v4 := hV2.lt
 obtain ⟨w3, hw3⟩ : ∃ w3, w3 = (w2.setCell ⟨w.heap.size + 1, 0, none⟩ (.int .i64 y.kind)).setCell ⟨w.heap.size + 1, 1, none⟩ (.int .i64 y.n) := ⟨_, rfl⟩
 have hb23 : w2.grownBy w3 (some (w.heap.size + 1)) := by rw [hw3]; exact gb_set (gb_set (gb_refl _ _) 0 _) 1 _
 have HV3 := Hd (show Blk w3 (w.heap.size + 1) 42 #[.int .i64 y.kind, .int .i64 y.n] by rw [hw3]; exact blk_set (blk_set hV2 0 _) 1 _)
 have HX3 := Hd (gb_blk hb23 HX2.out (by omega))
 have HC3 := Hd (show CallAt w3 B c lb cl m q pc lo (st ++ [x]) lq sq from
   ⟨gb_blk hb23 hc2.blk (by omega), own_keep2 hc2.low (fun g hg => hb23.block g (hc2.low.lt g hg).2 (fun e => by
     have h1 : g = w.heap.size + 1 := by simpa using e
     rcases hc2.lb with e2 | ⟨e2, _⟩
     · rw [hg] at e2; have := HLB.out; simp at e2; omega
     · rw [hg] at e2; cases e2)), own_keep2 hc2.sow (fun g hg => hb23.block g (hc2.sow.lt g hg).2 (fun e => by
     have h1 : g = w.heap.size + 1 := by simpa using e
     have h2 := HSQ.out g (own_len.trans hg)
     omega)), hc2.ap, hc2.lb, hc2.cB⟩)
 have HK3 := Hd (show KbR c lb (hsV (st ++ [x] ++ [y]) sq) w w3 from ⟨(hb23.os.trans hg2.os).trans HBW.out.os, (hb23.tape.trans hg2.tape).trans HBW.out.tape, (hb23.output.trans hg2.output).trans HBW.out.output, Nat.le_trans HBW.out.size (Nat.le_trans hg2.size hb23.size), fun k hk n1 n2 n3 => by
   have h1 := HBW.out.size
   have h2 := hg2.size
   rw [hb23.block k (by omega) (by intro e; simp at e; omega), hg2.block k (by omega) (by intro e; simp at e; exact n1 e), HBW.out.block k hk]⟩)
 have HPO := Hd (fun W' (hw : Below w3.heap.size w3 W') => rpop_calls B c lb cl m q pc lo st x lq sq W' (HC3.out.below hw) (by omega))
 have HSC := Hd (fun W' (hw : Below w3.heap.size w3 W') => (show W'.cell? ⟨w.heap.size, 1, none⟩ = some (.int .i64 ia) ∧ W'.cell? ⟨w.heap.size, 3, none⟩ = some (.string ⟨⟨ty⟩⟩) ∧ W'.cell? ⟨w.heap.size + 1, 1, none⟩ = some (.int .i64 y.n) from ⟨(HX3.out.below hw).cell 1, (HX3.out.below hw).cell 3, (HV3.out.below hw).cell 1⟩))
 have HSG := Hd (fun (W' W4 : World) (hw : Below w3.heap.size w3 W') (hg : W'.grownBy W4 (some c)) => (show W4.cell? ⟨w.heap.size, 1, none⟩ = some (.int .i64 ia) ∧ W4.cell? ⟨w.heap.size, 3, none⟩ = some (.string ⟨⟨ty⟩⟩) ∧ W4.cell? ⟨w.heap.size + 1, 1, none⟩ = some (.int .i64 y.n) from
   have hx := gb_blk hg (HX3.out.below hw) (by omega)
   have hv := gb_blk hg (HV3.out.below hw) (by omega)
   ⟨hx.cell 1, hx.cell 3, hv.cell 1⟩))
 have HOF := Hd hOf
 have HKD := Hd hKd
 have HGK := Hd (fun (W' W4 : World) (hw : Below w3.heap.size w3 W') (hg : W'.grownBy W4 (some c)) => show KbR c lb (hsV (st ++ [x] ++ [y]) sq) w W4 ∧ w.heap.size < W4.heap.size from
   ⟨HK3.out.trans ((KbR.of_below hw).trans ⟨hg.os, hg.tape, hg.output, hg.size, fun k hk n1 _ _ => hg.block k hk (by intro e; simp at e; exact n1 e)⟩ (VUp.refl _ _)) (VUp.refl _ _), by have := HX3.out.lt; have := hw.size; have := hg.size; omega⟩)
 unfold vV at HPO
 clear hc2 hg2 hV2 hb23 x1 x9 hOf hKd
 go_upto_region 4 with fail
 rw [← hw3]
 clear hw3 v0 v1 v2 v3 v4
 go_region_held3 (fun W' => W'.cell? ⟨w.heap.size, 1, none⟩ = some (.int .i64 ia) ∧ W'.cell? ⟨w.heap.size, 3, none⟩ = some (.string ⟨⟨ty⟩⟩) ∧ W'.cell? ⟨w.heap.size + 1, 1, none⟩ = some (.int .i64 y.n))
   (first | exact HSC.out _ (Below.refl _ _) | exact HSC.out _ (Below.refl _ _).drew | exact hs4)
   ((first
   | (go_at_call 150
      refine (HPO.out _ (by first | exact Below.refl _ _ | exact (Below.refl _ _).drew)).mono ?_
      rintro e w4 ⟨rfl, hc4, hg4⟩
      have hs4 := HSG.out _ w4 (by first | exact Below.refl _ _ | exact (Below.refl _ _).drew) hg4
      have hk4 := HGK.out _ w4 (by first | exact Below.refl _ _ | exact (Below.refl _ _).drew) hg4)
   | (go_at_call 85
      refine (HOF.out _).mono ?_
      rintro e wz ⟨rfl, rfl⟩)))
 all_goals
   have HC4 := Hd hc4
   have HK4 := Hd hk4
   have x3 := hs4.2.1
   have x9 := hk4.2
   clear hc4 hg4 hk4 hs4
   have HPU := Hd (rput_calls B c lb cl m q pc lo st ⟨kd, r⟩ lq sq w4 HC4.out (by omega))
   unfold vV at HPU
   go_wp2_with fail
   refine (rneed_true _).mono ?_
   rintro e w5 ⟨rfl, rfl⟩
   go_wp2_with fail
   refine (HKD.out _).mono ?_
   rintro e wz ⟨rfl, rfl⟩
   go_wp2_with fail
   refine HPU.out.mono ?_
   rintro e w6 ⟨rfl, sq', hc6, hk6, hv6⟩
   have HC6 := Hd hc6
   have HK6 := Hd (HK4.out.1.trans (v1 := hsV st sq) hk6 (Or.inl own_len))
   have HV6 := Hd (show VUp w (hsV (st ++ [x] ++ [y]) sq) (hsV (st ++ [⟨kd, r⟩]) sq') from VUp.trans (v1 := hsV st sq) (Or.inl own_len) hv6 HK4.out.1.size)
   clear hc6 hk6 hv6
   go_wp2_with fail
   go_end0
   exact ⟨rfl, sq', HC6.out, HK6.out, HV6.out⟩
theorem plain_math (B c lb : Nat) (cl : Nm) (m : MethR) (q : MAddr) (p : Nat) (lo st : List ValR) (x y : ValR) (ib : Int) (cn nm : Nm) (lq sq : HA) (w : World) (h : CallAt w B c lb cl m q p lo (st ++ [x] ++ [y]) lq sq) (hp : p ≤ 1000) (hl : st.length ≤ 900) (ia kd r : Int) (ty : Nm) (h12 : (ia == 12) = false) (hOf : ∀ W, Calls Tryz.prog 85 #[.string ⟨⟨ty⟩⟩, .int .i64 ia, .int .i64 x.n, .int .i64 y.n] W fun e w' => e = .returned (.tuple #[.int .i64 r, .bool true]) ∧ W = w') (hKd : ∀ W, Calls Tryz.prog 236 #[.string ⟨⟨ty⟩⟩] W fun e w' => e = .returned (.int .i64 kd) ∧ W = w') :
   Calls Tryz.prog 152 #[.pointer (some ⟨c, 0, none⟩), .agg #[.int .i64 9, .int .i64 ia, .int .i64 ib, .string ⟨⟨ty⟩⟩, .string ⟨⟨cn⟩⟩, .string ⟨⟨nm⟩⟩]] w (PRes B c lb cl m q p lo (st ++ [x] ++ [y]) lo (st ++ [⟨kd, r⟩]) lq sq ((p : Int) + 1) w) := by
 obtain ⟨W, hW⟩ : ∃ W, W = w.alloc (.cells #[.int .i64 9, .int .i64 ia, .int .i64 ib, .string ⟨⟨ty⟩⟩, .string ⟨⟨cn⟩⟩, .string ⟨⟨nm⟩⟩] 35) := ⟨_, rfl⟩
 have hbW : Below w.heap.size w W := by rw [hW]; exact bl_alloc (Below.refl _ _) _
 have HX := Hd (show Blk W w.heap.size 35 #[.int .i64 9, .int .i64 ia, .int .i64 ib, .string ⟨⟨ty⟩⟩, .string ⟨⟨cn⟩⟩, .string ⟨⟨nm⟩⟩] by rw [hW]; exact blk_new _ _ _ _ rfl)
 have HS := Hd (h.below hbW)
 have HBW := Hd hbW
 have c9 := HS.out.blk.cell 9
 have c12 := HS.out.blk.lt
 have x0 := HX.out.cell 0
 have x1 := HX.out.cell 1
 have x2 := HX.out.cell 2
 have x3 := HX.out.cell 3
 have x4 := HX.out.cell 4
 have x5 := HX.out.cell 5
 have x9 := HX.out.lt
 unfold rcArr at c9
 have HCA := Hd (math_two B c lb cl m q p lo st x y ib cn nm lq sq W HS.out hl ia kd r ty h12 hOf hKd)
 clear h hbW hOf hKd
 go_enter Tryz.func152, Tryz.ntmps152
 go_upto_region 1 with fail
 rw [← hW]
 clear hW
 go_wp2_with fail
 refine HCA.out.mono ?_
 rintro e w4 ⟨rfl, sq', hc4, hk4, hv4⟩
 have HC4 := Hd hc4
 have HK4 := Hd ((KbR.of_below HBW.out).trans hk4 (VUp.refl _ _))
 have HV4 := Hd (show VUp w (hsV (st ++ [x] ++ [y]) sq) (hsV (st ++ [⟨kd, r⟩]) sq') from by
   rcases hv4 with h | h
   · exact Or.inl h
   · exact Or.inr (fun k hk => Nat.le_trans HBW.out.size (h k hk)))
 clear hc4 hk4 hv4 c9 x0 x1 x2 x3 x4 x5
 go_wp2_with fail
 go_ret
 exact ⟨rfl, sq', HC4.out, HK4.out, HV4.out⟩
theorem heaped_5 (K c : Nat) (ia ib : Int) (ty cl nm : Nm) (w : World) :
   Calls Tryz.prog 153 #[.pointer (some ⟨K, 0, none⟩), .pointer (some ⟨c, 0, none⟩), .agg #[.int .i64 5, .int .i64 ia, .int .i64 ib, .string ⟨⟨ty⟩⟩, .string ⟨⟨cl⟩⟩, .string ⟨⟨nm⟩⟩]] w fun e w' => e = .returned (.tuple #[]) ∧ Below w.heap.size w w' := by
 have HB := Hd (fun o => bl_alloc (Below.refl w.heap.size w) o)
 go_enter Tryz.func153, Tryz.ntmps153
 go_wp2_with fail
 go_end0
 exact ⟨rfl, HB.out _⟩
theorem plain_15 (B c lb : Nat) (cl : Nm) (m : MethR) (q : MAddr) (p : Nat) (ia ib : Int) (lo st : List ValR) (ty cn nm : Nm) (lq sq : HA) (w : World) (h : CallAt w B c lb cl m q p lo st lq sq) (hp : p ≤ 1000) :
   Calls Tryz.prog 152 #[.pointer (some ⟨c, 0, none⟩), .agg #[.int .i64 15, .int .i64 ia, .int .i64 ib, .string ⟨⟨ty⟩⟩, .string ⟨⟨cn⟩⟩, .string ⟨⟨nm⟩⟩]] w fun e w' => e = .returned (.int .i64 ((p + 1 : Nat) : Int)) ∧ Below w.heap.size w w' := by
 have HB := Hd (fun o => bl_alloc (Below.refl w.heap.size w) o)
 have c9 := h.blk.cell 9
 have c12 := h.blk.lt
 unfold rcArr at c9
 clear h
 go_enter Tryz.func152, Tryz.ntmps152
 go_wp2_with fail
 go_ret
 exact ⟨rfl, HB.out _⟩
theorem plain_16 (B c lb : Nat) (cl : Nm) (m : MethR) (q : MAddr) (p : Nat) (ia ib : Int) (lo st : List ValR) (ty cn nm : Nm) (lq sq : HA) (w : World) (h : CallAt w B c lb cl m q p lo st lq sq) (hp : p ≤ 1000) :
   Calls Tryz.prog 152 #[.pointer (some ⟨c, 0, none⟩), .agg #[.int .i64 16, .int .i64 ia, .int .i64 ib, .string ⟨⟨ty⟩⟩, .string ⟨⟨cn⟩⟩, .string ⟨⟨nm⟩⟩]] w fun e w' => e = .returned (.int .i64 ((p + 1 : Nat) : Int)) ∧ Below w.heap.size w w' := by
 have HB := Hd (fun o => bl_alloc (Below.refl w.heap.size w) o)
 have c9 := h.blk.cell 9
 have c12 := h.blk.lt
 unfold rcArr at c9
 clear h
 go_enter Tryz.func152, Tryz.ntmps152
 go_wp2_with fail
 go_ret
 exact ⟨rfl, HB.out _⟩
theorem plain_17 (B c lb : Nat) (cl : Nm) (m : MethR) (q : MAddr) (p : Nat) (ia ib : Int) (lo st : List ValR) (ty cn nm : Nm) (lq sq : HA) (w : World) (h : CallAt w B c lb cl m q p lo st lq sq) (hp : p ≤ 1000) :
   Calls Tryz.prog 152 #[.pointer (some ⟨c, 0, none⟩), .agg #[.int .i64 17, .int .i64 ia, .int .i64 ib, .string ⟨⟨ty⟩⟩, .string ⟨⟨cn⟩⟩, .string ⟨⟨nm⟩⟩]] w fun e w' => e = .returned (.int .i64 ((p + 1 : Nat) : Int)) ∧ Below w.heap.size w w' := by
 have HB := Hd (fun o => bl_alloc (Below.refl w.heap.size w) o)
 have c9 := h.blk.cell 9
 have c12 := h.blk.lt
 unfold rcArr at c9
 clear h
 go_enter Tryz.func152, Tryz.ntmps152
 go_wp2_with fail
 go_ret
 exact ⟨rfl, HB.out _⟩
theorem plain_store (B c lb : Nat) (cl : Nm) (m : MethR) (q : MAddr) (p a : Nat) (ib : Int) (lo st : List ValR) (v : ValR) (ty cn nm : Nm) (lq sq : HA) (w : World) (h : CallAt w B c lb cl m q p lo (st ++ [v]) lq sq) (hp : p ≤ 1000) (hl : st.length ≤ 900) (hll : lo.length ≤ 1000) (ha : a < lo.length) :
   Calls Tryz.prog 152 #[.pointer (some ⟨c, 0, none⟩), .agg #[.int .i64 5, .int .i64 a, .int .i64 ib, .string ⟨⟨ty⟩⟩, .string ⟨⟨cn⟩⟩, .string ⟨⟨nm⟩⟩]] w (PRes B c lb cl m q p lo (st ++ [v]) (lo.set a v) st lq sq ((p + 1 : Nat) : Int) w) := by
 obtain ⟨W, hW⟩ : ∃ W, W = w.alloc (.cells #[.int .i64 5, .int .i64 a, .int .i64 ib, .string ⟨⟨ty⟩⟩, .string ⟨⟨cn⟩⟩, .string ⟨⟨nm⟩⟩] 35) := ⟨_, rfl⟩
 have hbW : Below w.heap.size w W := by rw [hW]; exact bl_alloc (Below.refl _ _) _
 have HX := Hd (show Blk W w.heap.size 35 #[.int .i64 5, .int .i64 a, .int .i64 ib, .string ⟨⟨ty⟩⟩, .string ⟨⟨cn⟩⟩, .string ⟨⟨nm⟩⟩] by rw [hW]; exact blk_new _ _ _ _ rfl)
 have HS := Hd (h.below hbW)
 have HBW := Hd hbW
 have hcw : c < w.heap.size := h.blk.lt
 obtain ⟨u, hu⟩ : ∃ u, lo[a]? = some u := ⟨_, List.getElem?_eq_getElem ha⟩
 obtain ⟨g, hga, hgl, _, _, _, _, _, hcap⟩ := ownv_at h.low hu
 obtain rfl : g = lb := by
   rcases h.lb with e | ⟨e, _⟩
   · simp only [hsV, hga, Value.ownBlock, Option.some.injEq] at e
     exact e
   · simp only [hsV, hga, Value.ownBlock] at e
     cases e
 have hgc : c ≠ g := fun e => ownv_ne h.low h.blk (by decide) (by simp [hsV, hga, Value.ownBlock, e])
 have i0 : (0 : Int) ≤ (a : Int) := Int.natCast_nonneg _
 have i1 : (a : Int) < (lo.length : Int) := by omega
 have c9 := HS.out.blk.cell 9
 have c12 := HS.out.blk.lt
 have x0 := HX.out.cell 0
 have x9 := HX.out.lt
 unfold rcArr at c9
 have HPO := Hd (fun W' (hw : Below W.heap.size W W') => rpop_calls B c g cl m q p lo st v lq sq W' (HS.out.below hw) (by omega))
 unfold vV at HPO
 have HSC := Hd (fun W' (hw : Below W.heap.size W W') => (show W'.cell? ⟨c, 10, none⟩ = some (.slice (some ⟨g, 0, none⟩) lo.length lq.2) ∧ W'.cell? ⟨w.heap.size, 1, none⟩ = some (.int .i64 a) from ⟨by have := (HS.out.below hw).blk.cell 10; unfold rcArr at this; rw [hga] at this; exact this, (HX.out.below hw).cell 1⟩))
 have HSD := Hd (fun (W' w4 : World) (hw : Below W.heap.size W W') (hc : CallAt w4 B c g cl m q p lo st lq sq) (hg : W'.grownBy w4 (some c)) => (show Blk w4 w.heap.size 35 #[.int .i64 5, .int .i64 a, .int .i64 ib, .string ⟨⟨ty⟩⟩, .string ⟨⟨cn⟩⟩, .string ⟨⟨nm⟩⟩] ∧ Blk w4 c 154 (rcArr cl m q p lo st lq sq) from ⟨gb_blk hg (HX.out.below hw) (by omega), hc.blk⟩))
 have HSE := Hd (fun (w4 : World) (hx : Blk w4 w.heap.size 35 #[.int .i64 5, .int .i64 a, .int .i64 ib, .string ⟨⟨ty⟩⟩, .string ⟨⟨cn⟩⟩, .string ⟨⟨nm⟩⟩]) (hb : Blk w4 c 154 (rcArr cl m q p lo st lq sq)) => (show w4.cell? ⟨c, 10, none⟩ = some (.slice (some ⟨g, 0, none⟩) lo.length lq.2) ∧ w4.cell? ⟨w.heap.size, 1, none⟩ = some (.int .i64 a) from ⟨by have := hb.cell 10; unfold rcArr at this; rw [hga] at this; exact this, hx.cell 1⟩))
 have hXg : w.heap.size ≠ g := by omega
 have HU := Hd hu
 have HGA := Hd hga
 have HFI := Hd (fun (W' w4 : World) (hw : Below W.heap.size W W') (hc : CallAt w4 B c g cl m q p lo st lq sq) (hg : W'.grownBy w4 (some c)) => show CallAt ((w4.setCell ⟨g, a * 2, none⟩ (.int .i64 v.kind)).setCell ⟨g, a * 2 + 1, none⟩ (.int .i64 v.n)) B c g cl m q p (lo.set a v) st lq sq ∧ KbR c g (hsV (st ++ [v]) sq) w ((w4.setCell ⟨g, a * 2, none⟩ (.int .i64 v.kind)).setCell ⟨g, a * 2 + 1, none⟩ (.int .i64 v.n)) from by
   have hlow := ownv_store (v := v) hc.low HGA.out ha
   have hsg : (hsV st sq).ownBlock ≠ some g := hc.ap g (by simp [hsV, HGA.out, Value.ownBlock])
   refine ⟨⟨?_, hlow, own_set (own_set hc.sow hsg _) hsg _, fun k hk => hc.ap k (by simpa [hsV] using hk), ?_, hc.cB⟩, ?_⟩
   · have e : rcArr cl m q p (lo.set a v) st lq sq = rcArr cl m q p lo st lq sq := by unfold rcArr; rw [List.length_set]
     rw [e]
     exact blk_apart (blk_apart hc.blk hgc _) hgc _
   · exact Or.inl (by simp [hsV, HGA.out, Value.ownBlock])
   · exact ⟨hg.os.trans (hw.os.trans HBW.out.os), hg.tape.trans (hw.tape.trans HBW.out.tape), hg.output.trans (hw.output.trans HBW.out.output), by have := Nat.le_trans HBW.out.size (Nat.le_trans hw.size hg.size); simpa [World.setCell] using this, fun k hk n1 n2 _ =>
       (Below.heap_setCell _ _ _ k n2).trans ((Below.heap_setCell _ _ _ k n2).trans ((hg.block k (Nat.lt_of_lt_of_le hk (Nat.le_trans HBW.out.size hw.size)) (by intro e; simp at e; exact n1 e)).trans ((hw.block k (Nat.lt_of_lt_of_le hk HBW.out.size)).trans (HBW.out.block k hk))))⟩)
 clear h hbW hu hga
 go_enter Tryz.func152, Tryz.ntmps152
 go_upto_region 1 with fail
 rw [← hW]
 clear hW
 go_upto_region 10 with fail
 go_region_held3 (fun W' => W'.cell? ⟨c, 10, none⟩ = some (.slice (some ⟨g, 0, none⟩) lo.length lq.2) ∧ W'.cell? ⟨w.heap.size, 1, none⟩ = some (.int .i64 a))
   (first | exact HSC.out _ (Below.refl _ _) | exact HSC.out _ (Below.refl _ _).drew | exact hs4 | exact hs5)
   ((go_at_call 150
     refine (HPO.out _ (by first | exact Below.refl _ _ | exact (Below.refl _ _).drew)).mono ?_
     rintro e w4 ⟨rfl, hc4, hg4⟩
     obtain ⟨hx4, hb4⟩ := HSD.out _ w4 (by first | exact Below.refl _ _ | exact (Below.refl _ _).drew) hc4 hg4
     have hs4 := HSE.out w4 hx4 hb4
     have hs5 := HSE.out _ (blk_apart (j := a * 2 + 1) (blk_apart (j := a * 2) hx4 hXg (.int .i64 v.kind)) hXg (.int .i64 v.n)) (blk_apart (blk_apart hb4 hgc _) hgc _)
     have hf4 := HFI.out _ w4 (by first | exact Below.refl _ _ | exact (Below.refl _ _).drew) hc4 hg4
     obtain ⟨g', hg', z4, _, z0, z1, z2, z3, _⟩ := ownv_at hc4.low HU.out
     obtain rfl : g = g' := by rw [HGA.out] at hg'; simp at hg'; exact hg'
     clear hg'))
 all_goals
   have HC4 := Hd hf4.1
   have HK4 := Hd hf4.2
   clear hc4 hg4 hs4 hs5 hf4 hx4 hb4 z0 z1 z2 z3 z4 c9 x0
   go_wp2_with fail
   go_ret
   exact ⟨rfl, sq, HC4.out, HK4.out, Or.inl own_len⟩
theorem heaped_new (l : List ClassR) (L : List CP) {W0 : World} {k : MK} {s : Int} {p : Nat} {lo st : List ValR} (n : Nm) (hW : WOk W0 k.b l L) (hn : nameOk n = true) (hl : (look (wl l) n).isSome = true) (hst : st.length ≤ 900) (w : World) (h : MSt W0 k s p lo st [] w) :
   Calls Tryz.prog 153 #[.pointer (some ⟨k.K, 0, none⟩), .pointer (some ⟨k.c, 0, none⟩), insV ⟨15, 0, 0, [], n, []⟩] w fun e w' => e = .returned (.tuple #[]) ∧ MSt W0 k s p lo (st ++ [⟨3, 1⟩]) [⟨thing n, (typesF (wl l) n).map zeroV⟩] w' ∧ KeepT w w' := by
 obtain ⟨sq, hv, qs, hm, hp⟩ := h
 obtain rfl : hv = .slice none 0 0 := hp.nil rfl
 obtain ⟨K, c, lb, cs, cc, b, cl, m, q, lq⟩ := k
 dsimp only at *
 obtain ⟨w1, hw1⟩ : ∃ w1, w1 = w.alloc (.cells #[.int .i64 15, .int .i64 0, .int .i64 0, .string ⟨⟨[]⟩⟩, .string ⟨⟨n⟩⟩, .string ⟨⟨[]⟩⟩] 35) := ⟨_, rfl⟩
 have hb1 : Below w.heap.size w w1 := by rw [hw1]; exact bl_alloc (Below.refl _ _) _
 have HX1 := Hd (show Blk w1 w.heap.size 35 #[.int .i64 15, .int .i64 0, .int .i64 0, .string ⟨⟨[]⟩⟩, .string ⟨⟨n⟩⟩, .string ⟨⟨[]⟩⟩] by rw [hw1]; exact blk_new _ _ _ _ rfl)
 have HM1 := Hd (hm.below hb1)
 have HB1 := Hd hb1
 obtain ⟨t, ht⟩ : ∃ t, t = (typesF (wl l) n).length := ⟨_, rfl⟩
 have HFR := Hd (fun W' (hw : Below w1.heap.size w1 W') => show Calls Tryz.prog 147 #[.map (some b), .string ⟨⟨n⟩⟩] W' (fun e w' => (∃ g, e = .returned (.agg #[.string ⟨⟨thing n⟩⟩, .slice (some ⟨g, 0, none⟩) t t]) ∧ Blk w' g 42 (valsL (List.replicate t ⟨0, 0⟩)).toArray ∧ W'.heap.size ≤ g) ∧ Below W'.heap.size W' w') from by
   rw [ht]; exact fresh_cls l L b n W' (hW.below ((HM1.out.below hw).bel)) (by have := (name_len hn).2; omega))
 have HMO := Hd (fun W' g (hw : Below w1.heap.size w1 W') (hg : Blk W' g 42 (valsL (List.replicate t ⟨0, 0⟩)).toArray) (hB : w1.heap.size ≤ g) => rmore_cls l L K b g t (.slice (some ⟨cs, 0, none⟩) 1 cc) s n w1.heap.size W' (hW.below ((HM1.out.below hw).bel)) (HM1.out.below hw).blk hw.size hn hl ht.symm hg hB)
 have HAF := Hd (fun (wa wb : World) (g : Nat) (hv' : Value) (hba : Below w1.heap.size w1 wa) (hgl : w1.heap.size ≤ g) (hkb : KbR K g (.slice none 0 0) wa wb) (hbk : Blk wb K 104 (macArr b hv' (.slice (some ⟨cs, 0, none⟩) 1 cc) 0 0 [] s false)) => show w1.grownBy wb (some K) ∧ MacAt W0 wb K c lb cs cc b hv' s cl m q p lo st lq sq from by
   have hg : w1.grownBy wb (some K) := ⟨hkb.os.trans hba.os, hkb.tape.trans hba.tape, hkb.output.trans hba.output, Nat.le_trans hba.size hkb.size, fun i hi hne => (hkb.block i (Nat.lt_of_lt_of_le hi hba.size) (fun e => hne (by rw [e])) (by omega) (by simp [Value.ownBlock])).trans (hba.block i hi)⟩
   exact ⟨hg, HM1.out.hv_gb hg hbk⟩)
 have HSC := Hd (fun W' (hw : w1.grownBy W' (some K)) (hk : W'.cell? ⟨K, 0, none⟩ = some (.map (some b))) => (show W'.cell? ⟨K, 0, none⟩ = some (.map (some b)) ∧ W'.cell? ⟨w.heap.size, 4, none⟩ = some (.string ⟨⟨n⟩⟩) from
   ⟨hk, (gb_blk hw HX1.out (by have := hm.blk.lt; omega)).cell 4⟩))
 have HSB := Hd (fun W' (hw : Below w1.heap.size w1 W') => HSC.out W' (gb_below (gb_refl w1 K) hw) ((HM1.out.blk.below hw).cell 0))
 have HXP := Hd (fun (wb wc : World) (sq' : HA) (hv' : Value) (hmb : MacAt W0 wb K c lb cs cc b hv' s cl m q p lo st lq sq) (hgb : w1.grownBy wb (some K)) (hcc : CallAt wc W0.heap.size c lb cl m q p lo (st ++ [⟨3, 1⟩]) lq sq') (hkc : KbR c lb (hsV st sq) wb wc) => show wc.cell? ⟨K, 0, none⟩ = some (.map (some b)) ∧ wc.cell? ⟨w.heap.size, 4, none⟩ = some (.string ⟨⟨n⟩⟩) from by
   have hx := gb_blk hgb HX1.out (by have := hm.blk.lt; omega)
   have hmc := hmb.keep hkc hcc
   exact ⟨hmc.blk.cell 0, (hmb.call.keepT hkc _ _ _ (by unfold OwnTy; decide) hx).cell 4⟩)
 have HGL := Hd (show lb < w1.heap.size ∧ ∀ g, (hsV st sq).ownBlock = some g → g < w1.heap.size from ⟨HM1.out.call.lb_lt, fun g hg => (HM1.out.call.sow.lt g hg).2⟩)
 have HBW := Hd HM1.out.bel.size
 have x0 := HX1.out.cell 0
 have x9 := HX1.out.lt
 have k9 := HM1.out.blk.lt
 obtain ⟨Ts, hTs⟩ : ∃ Ts, Ts = (typesF (wl l) n).map zeroV := ⟨_, rfl⟩
 rw [← hTs] at HMO ⊢
 obtain ⟨T, hT⟩ : ∃ T, T = thing n := ⟨_, rfl⟩
 rw [← hT] at HFR HMO ⊢
 clear hm hp hb1 hW hn hl hTs hT ht
 unfold insV
 dsimp only
 go_enter Tryz.func153, Tryz.ntmps153
 go_upto_region 1 with fail
 rw [← hw1]
 clear hw1
 go_upto_region 3 with fail
 go_region_held3 (fun W' => W'.cell? ⟨K, 0, none⟩ = some (.map (some b)) ∧ W'.cell? ⟨w.heap.size, 4, none⟩ = some (.string ⟨⟨n⟩⟩))
   (first | exact HSB.out _ (Below.refl _ _) | exact HSB.out _ (Below.refl _ _).drew | exact hsA | exact hsB | exact hsC)
   ((first
   | (go_at_call 147
      refine (HFR.out _ (by first | exact Below.refl _ _ | exact (Below.refl _ _).drew)).mono ?_
      rintro e wa ⟨⟨g, rfl, hga, hgl⟩, hba⟩
      have hba' : Below w1.heap.size w1 wa := by first | exact hba | exact bl_trans (Below.refl w1.heap.size w1).drew hba
      have hgl' : w1.heap.size ≤ g := hgl
      have hsA := HSB.out _ hba')
   | (go_at_call 146
      refine (HMO.out wa g hba' hga hgl').mono ?_
      rintro e wb ⟨rfl, hkb, hv', hbk, hot⟩
      obtain ⟨hgb, hmb⟩ := HAF.out wa wb g hv' hba' hgl' hkb hbk
      have hsB := HSC.out wb hgb (hmb.blk.cell 0))
   | (go_at_call 235
      refine (rput_calls W0.heap.size c lb cl m q p lo st ⟨3, 1⟩ lq sq wb hmb.call (by omega)).mono ?_
      rintro e wc ⟨rfl, sq', hcc, hkc, huc⟩
      have hsC := HXP.out wb wc sq' hv' hmb hgb hcc hkc)))
 all_goals
   have HMC := Hd (hmb.keep hkc hcc)
   have HAP := Hd (show ∀ (i : Nat) (x : ThingR) (y : HA) (j : Nat), ([⟨T, Ts⟩] : List ThingR)[i]? = some x → ([(some ⟨g, 0, none⟩, t)] : List HA)[i]? = some y → (hsV x.has y).ownBlock = some j → j ≠ lb ∧ (hsV st sq).ownBlock ≠ some j from by
     intro i x y j hx hy hj
     match i with
     | 0 =>
       simp only [List.getElem?_cons_zero, Option.some.injEq] at hy
       subst hy
       simp only [hsV, Value.ownBlock, Option.some.injEq] at hj
       have := HGL.out.1
       exact ⟨by omega, fun e => by have := HGL.out.2 j e; omega⟩
     | i + 1 => simp at hx)
   have HPC := Hd (show HpAt wc W0.heap.size lb hv' [⟨T, Ts⟩] [(some ⟨g, 0, none⟩, t)] (hsV (st ++ [⟨3, 1⟩]) sq') from
     HpAt.keep (st := st) (sq := sq) ⟨hot.down HBW.out, (fun e => by cases e), HAP.out⟩ hmb.call hkc huc)
   have HKC := Hd (((KeepT.of_below HB1.out).trans (KeepT.grown HM1.out.blk (Or.inr (Or.inr (Or.inl rfl))) hgb)).trans (hmb.call.keepT hkc))
   clear hba hba' hgl hgl' hga hkb hbk hot hgb hmb hcc hkc huc hsA hsB hsC
   go_wp2_with fail
   go_end0
   exact ⟨rfl, ⟨sq', hv', _, HMC.out, HPC.out⟩, HKC.out⟩
theorem rthing_calls (K b gt ct : Nat) (cv : Value) (s : Int) (w : World) (hK : Blk w K 104 (macArr b (.slice (some ⟨gt, 0, none⟩) 1 ct) cv 0 0 [] s false)) (hct : 1 ≤ ct) :
   Calls Tryz.prog 232 #[.pointer (some ⟨K, 0, none⟩), .agg #[.int .i64 3, .int .i64 1]] w fun e w' => e = .returned (.pointer (some ⟨gt, 0, none⟩)) ∧ Below w.heap.size w w' := by
 obtain ⟨W, hW⟩ : ∃ W, W = w.alloc (.cells #[.int .i64 3, .int .i64 1] 42) := ⟨_, rfl⟩
 have hbW : Below w.heap.size w W := by rw [hW]; exact bl_alloc (Below.refl _ _) _
 have HBW := Hd hbW
 have HV := Hd (show Blk W w.heap.size 42 #[.int .i64 3, .int .i64 1] by rw [hW]; exact blk_new _ _ _ _ rfl)
 have HK := Hd (hK.below hbW)
 have k1 := HK.out.cell 1
 have k9 := HK.out.lt
 have v1 := HV.out.cell 1
 have v9 := HV.out.lt
 unfold macArr at k1
 clear hK hbW
 go_enter Tryz.func232, Tryz.ntmps232
 go_upto_region 1 with fail
 rw [← hW]
 clear hW
 go_wp2_with fail
 refine (rneed_true _).mono ?_
 rintro e w5 ⟨rfl, rfl⟩
 go_upto_region 2 with fail
 go_region
 go_wp2_with fail
 go_ret
 exact ⟨rfl, HBW.out.drew⟩
theorem ownv_lt {w : World} {B : Nat} {l : List ValR} {q : HA} (h : OwnV w B l q) {i : Nat} (hi : i < l.length) : ∃ g, q.1 = some ⟨g, 0, none⟩ ∧ g < w.heap.size ∧ l.length ≤ q.2 := by
 obtain ⟨g, h1, h2, _, _, _, _, _, h3⟩ := ownv_at h (List.getElem?_eq_getElem hi)
 exact ⟨g, h1, h2, h3⟩
section
variable {W0 : World} {K c lb cs cc b : Nat} {s : Int} {cl : Nm} {m : MethR} {q : MAddr} {p : Int} {lo st : List ValR} {lq sq : HA} {hv : Value} {X : List ThingR} {qs : List HA}
theorem MacAt.set_val {w : World} {gv j : Nat} {cur : Array Value} (h : MacAt W0 w K c lb cs cc b hv s cl m q p lo st lq sq) (hb : Blk w gv 42 cur) (h1 : gv ≠ lb) (h2 : (hsV st sq).ownBlock ≠ some gv) (hB : W0.heap.size ≤ gv) (u : Value) : MacAt W0 (w.setCell ⟨gv, j, none⟩ u) K c lb cs cc b hv s cl m q p lo st lq sq := by
 have ne : ∀ {g : Nat} {T : TypeId} {cur2 : Array Value}, Blk w g T cur2 → T ≠ 42 → g ≠ gv := fun {g T cur2} hg hT e => by
   subst e
   have a1 : w.heap[g]? = some (.cells _ _ (0, 0)) := hb
   have a2 : w.heap[g]? = some (.cells _ _ (0, 0)) := hg
   rw [a1] at a2
   simp at a2
   exact hT a2.2.symm
 have hl : (hsV lo lq).ownBlock ≠ some gv := fun e => by
   rcases h.call.lb with e2 | ⟨e2, _⟩
   · rw [e2] at e; exact h1 (by simpa using e.symm)
   · rw [e2] at e; cases e
 exact ⟨blk_apart h.blk (ne h.blk (by decide)) u, own_set h.row (own_noblk h.row hb (by decide)) u, ⟨blk_apart h.call.blk (ne h.call.blk (by decide)) u, own_set h.call.low hl u, own_set h.call.sow h2 u, h.call.ap, h.call.lb, h.call.cB⟩, h.bK, h.bel.setCell (p := ⟨gv, j, none⟩) hB u⟩
theorem HpAt.store {w : World} {B : Nat} {x : ThingR} {vq : HA} {v : Value} {y : ValR} {gv i : Nat} (h : HpAt w B lb hv [x] [vq] v) (hg : vq.1 = some ⟨gv, 0, none⟩) (hi : i < x.has.length) : HpAt ((w.setCell ⟨gv, i * 2, none⟩ (.int .i64 y.kind)).setCell ⟨gv, i * 2 + 1, none⟩ (.int .i64 y.n)) B lb hv [⟨x.ty, x.has.set i y⟩] [vq] v := by
 have hov := h.own.has 0 x vq rfl rfl
 obtain ⟨cur, hb⟩ := own_blk hov (g := gv) (by simp [hg, Value.ownBlock])
 have hrow := h.own.row
 have hne := own_noblk hrow hb (by decide)
 refine ⟨⟨rfl, ?_, fun k z p hz hp => ?_⟩, (fun e => by cases e), fun k z p g hz hp hgb => ?_⟩
 · have e : thsL [⟨x.ty, x.has.set i y⟩] [vq] = thsL [x] [vq] := by simp [thsL, thCells]
   rw [e]
   exact own_set (own_set hrow hne _) hne _
 · match k with
   | 0 =>
     simp only [List.getElem?_cons_zero, Option.some.injEq] at hz hp
     subst hz hp
     exact ownv_store hov hg hi
   | k + 1 => simp at hz
 · match k with
   | 0 =>
     simp only [List.getElem?_cons_zero, Option.some.injEq] at hz hp
     subst hz hp
     exact h.ap 0 x vq g rfl rfl (by simpa [hsV] using hgb)
   | k + 1 => simp at hz
theorem MacAt.popped {w1 w' : World} {v : ValR} (h : MacAt W0 w1 K c lb cs cc b hv s cl m q p lo (st ++ [v]) lq sq) (hp : HpAt w1 W0.heap.size lb hv X qs (hsV (st ++ [v]) sq)) (hc : CallAt w' W0.heap.size c lb cl m q p lo st lq sq) (hg : w1.grownBy w' (some c)) :
   MacAt W0 w' K c lb cs cc b hv s cl m q p lo st lq sq ∧ HpAt w' W0.heap.size lb hv X qs (hsV st sq) ∧ KeepT w1 w' := by
 have hk : KbR c lb (hsV (st ++ [v]) sq) w1 w' := ⟨hg.os, hg.tape, hg.output, hg.size, fun i hi n1 _ _ => hg.block i hi (by intro e; simp at e; exact n1 e)⟩
 exact ⟨h.keep hk hc, hp.keep h.call hk (Or.inl own_len), h.call.keepT hk⟩
end
theorem heaped_get (l : List ClassR) (L : List CP) {W0 : World} {k : MK} {s : Int} {p : Nat} {lo st : List ValR} {x : ThingR} (n f : Nm) (i : Nat) (v : ValR) (hW : WOk W0 k.b l L) (hn : n.length ≤ 1000) (hpl : placeF (wl l) n f = some i) (hx : x.has[i]? = some v) (hst : st.length ≤ 900) (hxl : x.has.length ≤ 1000) (w : World) (h : MSt W0 k s p lo (st ++ [⟨3, 1⟩]) [x] w) :
   Calls Tryz.prog 153 #[.pointer (some ⟨k.K, 0, none⟩), .pointer (some ⟨k.c, 0, none⟩), insV ⟨16, 0, 0, [], n, f⟩] w fun e w' => e = .returned (.tuple #[]) ∧ MSt W0 k s p lo (st ++ [v]) [x] w' ∧ KeepT w w' := by
 obtain ⟨sq, hv, qs, hm, hp⟩ := h
 obtain ⟨K, c, lb, cs, cc, b, cl, m, q, lq⟩ := k
 dsimp only at *
 obtain ⟨gt, ct, vq, rfl, rfl, _, hct, _, _, _⟩ := hp.own.one
 obtain ⟨w1, hw1⟩ : ∃ w1, w1 = w.alloc (.cells #[.int .i64 16, .int .i64 0, .int .i64 0, .string ⟨⟨[]⟩⟩, .string ⟨⟨n⟩⟩, .string ⟨⟨f⟩⟩] 35) := ⟨_, rfl⟩
 have hb1 : Below w.heap.size w w1 := by rw [hw1]; exact bl_alloc (Below.refl _ _) _
 have HX1 := Hd (show Blk w1 w.heap.size 35 #[.int .i64 16, .int .i64 0, .int .i64 0, .string ⟨⟨[]⟩⟩, .string ⟨⟨n⟩⟩, .string ⟨⟨f⟩⟩] by rw [hw1]; exact blk_new _ _ _ _ rfl)
 have hm1 := hm.below hb1
 have hp1 := hp.below hb1
 obtain ⟨gt', ct', vq', e1, e2, hgl, _, _, t1, hov⟩ := hp1.own.one
 simp only [Value.slice.injEq, Option.some.injEq, Addr.mk.injEq, and_true, true_and] at e1
 obtain ⟨rfl, rfl⟩ := e1
 simp only [List.cons.injEq, and_true] at e2
 subst e2
 have hil := (List.getElem?_eq_some_iff.1 hx).1
 obtain ⟨gv, hgv, hvl, _, y0, y1, _, _, hvc⟩ := ownv_at hov hx
 rw [hgv] at t1
 have HM1 := Hd hm1
 have HP1 := Hd hp1
 have HB1 := Hd hb1
 have hcw : c < w.heap.size := hm.call.blk.lt
 have hcK : K ≠ c := (hm1.call.apart hm1.blk (by decide) (by decide)).1
 have hcg : gt ≠ c := by
   obtain ⟨cur, hb⟩ := own_blk hp1.own.row rfl
   exact (hm1.call.apart hb (by decide) (by decide)).1
 have hcv : gv ≠ c := fun e => ownv_ne hov hm1.call.blk (by decide) (by simp [hsV, hgv, Value.ownBlock, e])
 have HSC := Hd (fun W' (hw : w1.grownBy W' (some c)) => (show W'.cell? ⟨K, 0, none⟩ = some (.map (some b)) ∧ W'.cell? ⟨w.heap.size, 4, none⟩ = some (.string ⟨⟨n⟩⟩) ∧ W'.cell? ⟨w.heap.size, 5, none⟩ = some (.string ⟨⟨f⟩⟩) ∧ W'.cell? ⟨gt, 1, none⟩ = some (.slice (some ⟨gv, 0, none⟩) x.has.length vq.2) ∧ W'.cell? ⟨gv, i * 2, none⟩ = some (.int .i64 v.kind) ∧ W'.cell? ⟨gv, i * 2 + 1, none⟩ = some (.int .i64 v.n) from
   ⟨(gb_blk hw HM1.out.blk hcK).cell 0, (gb_blk hw HX1.out (by omega)).cell 4, (gb_blk hw HX1.out (by omega)).cell 5, (gb_cell hw (a := ⟨gt, 1, none⟩) hgl hcg).trans t1, (gb_cell hw (a := ⟨gv, i * 2, none⟩) hvl hcv).trans y0, (gb_cell hw (a := ⟨gv, i * 2 + 1, none⟩) hvl hcv).trans y1⟩))
 have HPO := Hd (fun W' (hw : Below w1.heap.size w1 W') => rpop_calls W0.heap.size c lb cl m q p lo st ⟨3, 1⟩ lq sq W' (hm1.below hw).call (by omega))
 have HTH := Hd (fun W' (hw : w1.grownBy W' (some c)) => rthing_calls K b gt ct (.slice (some ⟨cs, 0, none⟩) 1 cc) s W' (gb_blk hw HM1.out.blk hcK) hct)
 have HAT := Hd (fun W' (hw : w1.grownBy W' (some c)) => show Calls Tryz.prog 40 #[.map (some b), .string ⟨⟨n⟩⟩, .string ⟨⟨f⟩⟩] W' (fun e w' => e = .returned (.int .i64 i) ∧ Below W'.heap.size W' w') from by
   refine (at_calls l L b n f W' (hW.below (HM1.out.bel.trans ⟨hw.os, hw.tape, hw.output, hw.size, fun j hj => hw.block j (Nat.lt_of_lt_of_le hj HM1.out.bel.size) (by have := HM1.out.call.cB; intro e; simp at e; omega)⟩)) (by omega)).mono ?_
   rintro e w' ⟨⟨r, rfl, hr⟩, hb⟩
   rcases hr with ⟨j, hj, _, rfl⟩ | ⟨hj, _⟩
   · rw [hpl] at hj; cases hj; exact ⟨rfl, hb⟩
   · rw [hpl] at hj; cases hj)
 have HMB := Hd (fun W' (hc : CallAt W' W0.heap.size c lb cl m q p lo st lq sq) (hg : w1.grownBy W' (some c)) => HM1.out.popped HP1.out hc hg)
 have HXP := Hd (fun (wb wc : World) (sq' : HA) (hc : CallAt wb W0.heap.size c lb cl m q p lo st lq sq) (hg : w1.grownBy wb (some c)) (hcc : CallAt wc W0.heap.size c lb cl m q p lo (st ++ [v]) lq sq') (hkc : KbR c lb (hsV st sq) wb wc) (hu : VUp wb (hsV st sq) (hsV (st ++ [v]) sq')) => show wc.cell? ⟨K, 0, none⟩ = some (.map (some b)) ∧ wc.cell? ⟨w.heap.size, 4, none⟩ = some (.string ⟨⟨n⟩⟩) ∧ wc.cell? ⟨w.heap.size, 5, none⟩ = some (.string ⟨⟨f⟩⟩) ∧ wc.cell? ⟨gt, 1, none⟩ = some (.slice (some ⟨gv, 0, none⟩) x.has.length vq.2) ∧ wc.cell? ⟨gv, i * 2, none⟩ = some (.int .i64 v.kind) ∧ wc.cell? ⟨gv, i * 2 + 1, none⟩ = some (.int .i64 v.n) from by
   obtain ⟨hmb, hpb, _⟩ := HMB.out wb hc hg
   have hx' := hmb.call.keepT hkc _ _ _ (by unfold OwnTy; decide) (gb_blk hg HX1.out (by omega))
   have hmc := hmb.keep hkc hcc
   have hpc := hpb.keep hmb.call hkc hu
   obtain ⟨gt2, ct2, vq2, e1, e2, _, _, _, t2, hov2⟩ := hpc.own.one
   simp only [Value.slice.injEq, Option.some.injEq, Addr.mk.injEq, and_true, true_and] at e1
   obtain ⟨rfl, rfl⟩ := e1
   simp only [List.cons.injEq, and_true] at e2
   subst e2
   obtain ⟨gv2, hgv2, _, _, z0, z1, _⟩ := ownv_at hov2 hx
   rw [hgv] at hgv2
   simp only [Option.some.injEq, Addr.mk.injEq, and_true] at hgv2
   subst hgv2
   rw [hgv] at t2
   exact ⟨hmc.blk.cell 0, hx'.cell 4, hx'.cell 5, t2, z0, z1⟩)
 have HPU := Hd (fun W' (hc : CallAt W' W0.heap.size c lb cl m q p lo st lq sq) => rput_calls W0.heap.size c lb cl m q p lo st v lq sq W' hc (by omega))
 have i0 : (0 : Int) ≤ (i : Int) := Int.natCast_nonneg _
 have i1 : (i : Int) < (x.has.length : Int) := by omega
 have x0 := HX1.out.cell 0
 have x9 := HX1.out.lt
 have k9 := HM1.out.blk.lt
 unfold vV at HPO HPU
 clear hm hp hb1 hm1 hp1 hW hpl hx hov t1 y0 y1
 unfold insV
 dsimp only
 go_enter Tryz.func153, Tryz.ntmps153
 go_upto_region 1 with fail
 rw [← hw1]
 clear hw1
 go_upto_region 5 with fail
 go_region_held3 (fun W' => W'.cell? ⟨K, 0, none⟩ = some (.map (some b)) ∧ W'.cell? ⟨w.heap.size, 4, none⟩ = some (.string ⟨⟨n⟩⟩) ∧ W'.cell? ⟨w.heap.size, 5, none⟩ = some (.string ⟨⟨f⟩⟩) ∧ W'.cell? ⟨gt, 1, none⟩ = some (.slice (some ⟨gv, 0, none⟩) x.has.length vq.2) ∧ W'.cell? ⟨gv, i * 2, none⟩ = some (.int .i64 v.kind) ∧ W'.cell? ⟨gv, i * 2 + 1, none⟩ = some (.int .i64 v.n))
   (first | exact HSC.out _ (gb_refl _ _) | exact HSC.out _ (gb_drew (gb_refl _ _)) | exact hs7 | exact hs6 | exact hs5 | exact hs4)
   ((first
   | (go_at_call 150
      first
      | (refine (HPO.out w6 hb6).mono ?_
         rintro e w4 ⟨rfl, hc4, hg⟩
         have hg4 : w1.grownBy w4 (some c) := gb_trans (gb_below (gb_refl w1 c) hb6) hg)
      | (refine (HPO.out _ (by first | exact Below.refl _ _ | exact (Below.refl _ _).drew)).mono ?_
         rintro e w4 ⟨rfl, hc4, hg⟩
         have hg4 : w1.grownBy w4 (some c) := by first | exact hg | exact gb_trans (gb_drew (gb_refl w1 c)) hg)
      have hs4 := HSC.out _ hg4)
   | (go_at_call 232
      first
      | (refine (HTH.out w6 hg6).mono ?_
         rintro e w5 ⟨rfl, hb5⟩
         have hg5 := gb_below hg6 hb5
         have hc5 := hc6.below hb5)
      | (refine (HTH.out w4 hg4).mono ?_
         rintro e w5 ⟨rfl, hb5⟩
         have hg5 := gb_below hg4 hb5
         have hc5 := hc4.below hb5)
      have hs5 := HSC.out _ hg5)
   | (go_at_call 40
      first
      | (refine (HAT.out w5 hg5).mono ?_
         rintro e w6 ⟨rfl, hb⟩
         have hg6 := gb_below hg5 hb
         have hc6 := hc5.below hb
         have hs6 := HSC.out _ hg6)
      | (refine (HAT.out w4 hg4).mono ?_
         rintro e w6 ⟨rfl, hb⟩
         have hg6 := gb_below hg4 hb
         have hc6 := hc4.below hb
         have hs6 := HSC.out _ hg6)
      | (refine (HAT.out _ (by first | exact gb_refl _ _ | exact gb_drew (gb_refl _ _))).mono ?_
         rintro e w6 ⟨rfl, hb⟩
         have hb6 : Below w1.heap.size w1 w6 := by first | exact hb | exact bl_trans (Below.refl w1.heap.size w1).drew hb
         have hs6 := HSC.out _ (gb_below (gb_refl w1 c) hb6)))
   | (go_at_call 235
      first
      | (refine (HPU.out w6 hc6).mono ?_
         rintro e wc ⟨rfl, sq', hcc, hkc, huc⟩
         have hs7 := HXP.out w6 wc sq' hc6 hg6 hcc hkc huc
         have hfin := HMB.out w6 hc6 hg6)
      | (refine (HPU.out w5 hc5).mono ?_
         rintro e wc ⟨rfl, sq', hcc, hkc, huc⟩
         have hs7 := HXP.out w5 wc sq' hc5 hg5 hcc hkc huc
         have hfin := HMB.out w5 hc5 hg5))))
 all_goals
   have HMC := Hd (hfin.1.keep hkc hcc)
   have HPC := Hd (hfin.2.1.keep hfin.1.call hkc huc)
   have HKC := Hd (((KeepT.of_below HB1.out).trans hfin.2.2).trans (hfin.1.call.keepT hkc))
   clear hfin hcc hkc huc hs7
   go_wp2_with fail
   go_end0
   exact ⟨rfl, ⟨sq', _, _, HMC.out, HPC.out⟩, HKC.out⟩
theorem heaped_put (l : List ClassR) (L : List CP) {W0 : World} {k : MK} {s : Int} {p : Nat} {lo st : List ValR} {x : ThingR} (n f : Nm) (i : Nat) (v : ValR) (hW : WOk W0 k.b l L) (hn : n.length ≤ 1000) (hpl : placeF (wl l) n f = some i) (hil : i < x.has.length) (hst : st.length ≤ 900) (hxl : x.has.length ≤ 1000) (w : World) (h : MSt W0 k s p lo (st ++ [⟨3, 1⟩] ++ [v]) [x] w) :
   Calls Tryz.prog 153 #[.pointer (some ⟨k.K, 0, none⟩), .pointer (some ⟨k.c, 0, none⟩), insV ⟨17, 0, 0, [], n, f⟩] w fun e w' => e = .returned (.tuple #[]) ∧ MSt W0 k s p lo st [⟨x.ty, x.has.set i v⟩] w' ∧ KeepT w w' := by
 obtain ⟨sq, hv, qs, hm, hp⟩ := h
 obtain ⟨K, c, lb, cs, cc, b, cl, m, q, lq⟩ := k
 dsimp only at *
 obtain ⟨gt, ct, vq, rfl, rfl, _, hct, _, _, _⟩ := hp.own.one
 obtain ⟨w1, hw1⟩ : ∃ w1, w1 = w.alloc (.cells #[.int .i64 17, .int .i64 0, .int .i64 0, .string ⟨⟨[]⟩⟩, .string ⟨⟨n⟩⟩, .string ⟨⟨f⟩⟩] 35) := ⟨_, rfl⟩
 have hb1 : Below w.heap.size w w1 := by rw [hw1]; exact bl_alloc (Below.refl _ _) _
 have HX1 := Hd (show Blk w1 w.heap.size 35 #[.int .i64 17, .int .i64 0, .int .i64 0, .string ⟨⟨[]⟩⟩, .string ⟨⟨n⟩⟩, .string ⟨⟨f⟩⟩] by rw [hw1]; exact blk_new _ _ _ _ rfl)
 have hm1 := hm.below hb1
 have hp1 := hp.below hb1
 have HM1 := Hd hm1
 have HP1 := Hd hp1
 have HB1 := Hd hb1
 have hcw : c < w.heap.size := hm.call.blk.lt
 have hcK : K ≠ c := (hm1.call.apart hm1.blk (by decide) (by decide)).1
 have HPF := Hd (rpop_calls W0.heap.size c lb cl m q p lo (st ++ [⟨3, 1⟩]) v lq sq w1 hm1.call (by simp; omega))
 unfold vV at HPF
 have hkw := hm1.blk.lt
 have i0 : (0 : Int) ≤ (i : Int) := Int.natCast_nonneg _
 have i1 : (i : Int) < (x.has.length : Int) := by omega
 have x0 := HX1.out.cell 0
 have x9 := HX1.out.lt
 have HWW := Hd hW
 have HPL := Hd hpl
 clear hm hp hb1 hm1 hp1 hW hpl
 unfold insV
 dsimp only
 go_enter Tryz.func153, Tryz.ntmps153
 go_upto_region 1 with fail
 rw [← hw1]
 clear hw1
 go_upto_region 7 with fail
 go_wp2_with fail
 refine HPF.out.mono ?_
 rintro e w2 ⟨rfl, hc2, hg2⟩
 obtain ⟨hm2, hp2, hk2⟩ := HM1.out.popped HP1.out hc2 hg2
 obtain ⟨w3, hw3⟩ : ∃ w3, w3 = w2.alloc (.cells #[.int .i64 v.kind, .int .i64 v.n] 42) := ⟨_, rfl⟩
 have hb3 : Below w2.heap.size w2 w3 := by rw [hw3]; exact bl_alloc (Below.refl _ _) _
 have HV3 := Hd (show Blk w3 w2.heap.size 42 #[.int .i64 v.kind, .int .i64 v.n] by rw [hw3]; exact blk_new _ _ _ _ rfl)
 have HX3 := Hd ((gb_blk hg2 HX1.out (show w.heap.size ≠ c by omega)).below hb3)
 have hm3 := hm2.below hb3
 have hp3 := hp2.below hb3
 have HM3 := Hd hm3
 have HP3 := Hd hp3
 have HK3 := Hd ((hk2.trans (KeepT.of_below hb3)))
 obtain ⟨gt', ct', vq', e1, e2, hgl, _, _, t1, hov⟩ := hp3.own.one
 simp only [Value.slice.injEq, Option.some.injEq, Addr.mk.injEq, and_true, true_and] at e1
 obtain ⟨rfl, rfl⟩ := e1
 simp only [List.cons.injEq, and_true] at e2
 subst e2
 obtain ⟨gv, hgv, hvl, hvc⟩ := ownv_lt hov hil
 rw [hgv] at t1
 have HGV := Hd hgv
 have hs2 := hg2.size
 have hcg : gt ≠ c := by
   obtain ⟨cur, hb⟩ := own_blk hp3.own.row rfl
   exact (hm3.call.apart hb (by decide) (by decide)).1
 have hcv : gv ≠ c := fun e => ownv_ne hov hm3.call.blk (by decide) (by simp [hsV, hgv, Value.ownBlock, e])
 have hgvg : gt ≠ gv := fun e => by
   obtain ⟨cur, hb⟩ := own_blk hp3.own.row (g := gt) rfl
   exact own_noblk hov hb (by decide) (by simp [hgv, Value.ownBlock, e])
 have hgvK : K ≠ gv := fun e => own_noblk hov hm3.blk (by decide) (by simp [hgv, Value.ownBlock, e])
 have hgvX : w.heap.size ≠ gv := fun e => own_noblk hov HX3.out (by decide) (by simp [hgv, Value.ownBlock, e])
 have hgvV : w2.heap.size ≠ gv := fun e => by
   have h2 := hp2.own.has 0 x vq rfl rfl
   obtain ⟨g2, h3, h4, _⟩ := ownv_lt h2 hil
   rw [hgv] at h3
   simp only [Option.some.injEq, Addr.mk.injEq, and_true] at h3
   omega
 have hVc : w2.heap.size ≠ c := by have := hc2.blk.lt; omega
 have HSC := Hd (fun W' (hw : w3.grownBy W' (some c)) => (show (W'.cell? ⟨K, 0, none⟩ = some (.map (some b)) ∧ W'.cell? ⟨w.heap.size, 4, none⟩ = some (.string ⟨⟨n⟩⟩) ∧ W'.cell? ⟨w.heap.size, 5, none⟩ = some (.string ⟨⟨f⟩⟩) ∧ W'.cell? ⟨gt, 1, none⟩ = some (.slice (some ⟨gv, 0, none⟩) x.has.length vq.2) ∧ W'.cell? ⟨w2.heap.size, 0, none⟩ = some (.int .i64 v.kind) ∧ W'.cell? ⟨w2.heap.size, 1, none⟩ = some (.int .i64 v.n)) ∧ ∀ (j1 j2 : Nat) (u1 u2 : Value), let W9 := (W'.setCell ⟨gv, j1, none⟩ u1).setCell ⟨gv, j2, none⟩ u2
   W9.cell? ⟨K, 0, none⟩ = some (.map (some b)) ∧ W9.cell? ⟨w.heap.size, 4, none⟩ = some (.string ⟨⟨n⟩⟩) ∧ W9.cell? ⟨w.heap.size, 5, none⟩ = some (.string ⟨⟨f⟩⟩) ∧ W9.cell? ⟨gt, 1, none⟩ = some (.slice (some ⟨gv, 0, none⟩) x.has.length vq.2) ∧ W9.cell? ⟨w2.heap.size, 0, none⟩ = some (.int .i64 v.kind) ∧ W9.cell? ⟨w2.heap.size, 1, none⟩ = some (.int .i64 v.n) from by
   have a1 := gb_blk hw HM3.out.blk hcK
   have a2 := gb_blk hw HX3.out (show w.heap.size ≠ c by omega)
   have a3 := gb_blk hw HV3.out hVc
   have a4 := (gb_cell hw (a := ⟨gt, 1, none⟩) hgl hcg).trans t1
   refine ⟨⟨a1.cell 0, a2.cell 4, a2.cell 5, a4, a3.cell 0, a3.cell 1⟩, fun j1 j2 u1 u2 => ?_⟩
   have b1 := blk_apart (j := j2) (blk_apart (j := j1) a1 hgvK u1) hgvK u2
   have b2 := blk_apart (j := j2) (blk_apart (j := j1) a2 hgvX u1) hgvX u2
   have b3 := blk_apart (j := j2) (blk_apart (j := j1) a3 hgvV u1) hgvV u2
   refine ⟨b1.cell 0, b2.cell 4, b2.cell 5, ?_, b3.cell 0, b3.cell 1⟩
   rw [World.cell?_setCell_far _ _ _ _ (by show gv ≠ gt; exact hgvg.symm), World.cell?_setCell_far _ _ _ _ (by show gv ≠ gt; exact hgvg.symm)]
   exact a4))
 have HPO := Hd (fun W' (hw : Below w3.heap.size w3 W') => rpop_calls W0.heap.size c lb cl m q p lo st ⟨3, 1⟩ lq sq W' (HM3.out.below hw).call (by omega))
 have HTH := Hd (fun W' (hw : w3.grownBy W' (some c)) => rthing_calls K b gt ct (.slice (some ⟨cs, 0, none⟩) 1 cc) s W' (gb_blk hw HM3.out.blk hcK) hct)
 have HAT := Hd (fun W' (hw : w3.grownBy W' (some c)) => show Calls Tryz.prog 40 #[.map (some b), .string ⟨⟨n⟩⟩, .string ⟨⟨f⟩⟩] W' (fun e w' => e = .returned (.int .i64 i) ∧ Below W'.heap.size W' w') from by
   refine (at_calls l L b n f W' (HWW.out.below (HM3.out.bel.trans ⟨hw.os, hw.tape, hw.output, hw.size, fun j hj => hw.block j (Nat.lt_of_lt_of_le hj HM3.out.bel.size) (by have := HM3.out.call.cB; intro e; simp at e; omega)⟩)) (by omega)).mono ?_
   rintro e w' ⟨⟨r, rfl, hr⟩, hb⟩
   rcases hr with ⟨j, hj, _, rfl⟩ | ⟨hj, _⟩
   · rw [HPL.out] at hj; cases hj; exact ⟨rfl, hb⟩
   · rw [HPL.out] at hj; cases hj)
 have HMB := Hd (fun W' (hc : CallAt W' W0.heap.size c lb cl m q p lo st lq sq) (hg : w3.grownBy W' (some c)) => HM3.out.popped HP3.out hc hg)
 have HFI := Hd (fun W' (hc : CallAt W' W0.heap.size c lb cl m q p lo st lq sq) (hg : w3.grownBy W' (some c)) => show (W'.cell? ⟨gv, i * 2, none⟩).isSome = true ∧ (W'.cell? ⟨gv, i * 2 + 1, none⟩).isSome = true ∧ W'.frozen? ⟨gv, i * 2, none⟩ = false ∧ W'.frozen? ⟨gv, i * 2 + 1, none⟩ = false ∧ gv < W'.heap.size ∧ (∃ y0, W'.cell? ⟨gv, i * 2, none⟩ = some y0) ∧ (∃ y1, W'.cell? ⟨gv, i * 2 + 1, none⟩ = some y1) ∧
     MacAt W0 ((W'.setCell ⟨gv, i * 2, none⟩ (.int .i64 v.kind)).setCell ⟨gv, i * 2 + 1, none⟩ (.int .i64 v.n)) K c lb cs cc b (.slice (some ⟨gt, 0, none⟩) 1 ct) s cl m q p lo st lq sq ∧ HpAt ((W'.setCell ⟨gv, i * 2, none⟩ (.int .i64 v.kind)).setCell ⟨gv, i * 2 + 1, none⟩ (.int .i64 v.n)) W0.heap.size lb (.slice (some ⟨gt, 0, none⟩) 1 ct) [⟨x.ty, x.has.set i v⟩] [vq] (hsV st sq) ∧ KeepT w3 ((W'.setCell ⟨gv, i * 2, none⟩ (.int .i64 v.kind)).setCell ⟨gv, i * 2 + 1, none⟩ (.int .i64 v.n)) from by
   obtain ⟨hma, hpa, hka⟩ := HMB.out W' hc hg
   have hva := hpa.own.has 0 x vq rfl rfl
   obtain ⟨y, hy⟩ : ∃ y, x.has[i]? = some y := ⟨_, List.getElem?_eq_getElem hil⟩
   obtain ⟨g', hg', g1, gB, c0, c1, f0, f1, _⟩ := ownv_at hva hy
   rw [HGV.out] at hg'
   simp only [Option.some.injEq, Addr.mk.injEq, and_true] at hg'
   subst hg'
   obtain ⟨n2, n3⟩ := hpa.ap 0 x vq gv rfl rfl (by simp [hsV, HGV.out, Value.ownBlock])
   obtain ⟨cur, hbv⟩ := own_blk hva (g := gv) (by simp [HGV.out, Value.ownBlock])
   have hm5 := hma.set_val (j := i * 2) hbv n2 n3 gB (.int .i64 v.kind)
   have hm6 := hm5.set_val (j := i * 2 + 1) (blk_set hbv (i * 2) (.int .i64 v.kind)) n2 n3 gB (.int .i64 v.n)
   refine ⟨by rw [c0]; rfl, by rw [c1]; rfl, f0, f1, g1, ⟨_, c0⟩, ⟨_, c1⟩, hm6, hpa.store HGV.out hil, fun g2 cur2 T hT hb2 => ?_⟩
   have hne : g2 ≠ gv := fun e => by
     subst e
     have a1 : W'.heap[g2]? = some (.cells _ _ (0, 0)) := hbv
     have a2 : W'.heap[g2]? = some (.cells _ _ (0, 0)) := hka _ _ _ hT hb2
     rw [a1] at a2
     simp at a2
     exact hT (Or.inl a2.2.symm)
   exact blk_apart (blk_apart (hka _ _ _ hT hb2) hne _) hne _)
 have k9 := HM3.out.blk.lt
 unfold vV at HPO
 clear hc2 hg2 hm2 hp2 hk2 hb3 hm3 hp3 hov t1 hgv x0
 go_upto_region 8 with fail
 rw [← hw3]
 clear hw3
 go_region_held3 (fun W' => W'.cell? ⟨K, 0, none⟩ = some (.map (some b)) ∧ W'.cell? ⟨w.heap.size, 4, none⟩ = some (.string ⟨⟨n⟩⟩) ∧ W'.cell? ⟨w.heap.size, 5, none⟩ = some (.string ⟨⟨f⟩⟩) ∧ W'.cell? ⟨gt, 1, none⟩ = some (.slice (some ⟨gv, 0, none⟩) x.has.length vq.2) ∧ W'.cell? ⟨w2.heap.size, 0, none⟩ = some (.int .i64 v.kind) ∧ W'.cell? ⟨w2.heap.size, 1, none⟩ = some (.int .i64 v.n))
   (first | exact (HSC.out _ (gb_refl _ _)).1 | exact (HSC.out _ (gb_drew (gb_refl _ _))).1 | exact hs6.1 | exact hs5.1 | exact hs4.1 | exact hs6.2 _ _ _ _ | exact hs5.2 _ _ _ _)
   ((first
   | (go_at_call 150
      first
      | (refine (HPO.out w6 hb6).mono ?_
         rintro e w4 ⟨rfl, hc4, hg⟩
         have hg4 : w3.grownBy w4 (some c) := gb_trans (gb_below (gb_refl w3 c) hb6) hg)
      | (refine (HPO.out _ (by first | exact Below.refl _ _ | exact (Below.refl _ _).drew)).mono ?_
         rintro e w4 ⟨rfl, hc4, hg⟩
         have hg4 : w3.grownBy w4 (some c) := by first | exact hg | exact gb_trans (gb_drew (gb_refl w3 c)) hg)
      have hs4 := HSC.out _ hg4)
   | (go_at_call 232
      first
      | (refine (HTH.out w6 hg6).mono ?_
         rintro e w5 ⟨rfl, hb5⟩
         have hg5 := gb_below hg6 hb5
         have hc5 := hc6.below hb5)
      | (refine (HTH.out w4 hg4).mono ?_
         rintro e w5 ⟨rfl, hb5⟩
         have hg5 := gb_below hg4 hb5
         have hc5 := hc4.below hb5)
      have hs5 := HSC.out _ hg5
      have hf := HFI.out w5 hc5 hg5
      obtain ⟨_, _, z2, z3, z4, ⟨_, z0⟩, ⟨_, z1⟩, hfm, hfp, hfk⟩ := hf)
   | (go_at_call 40
      first
      | (refine (HAT.out w5 hg5).mono ?_
         rintro e w6 ⟨rfl, hb⟩
         have hg6 := gb_below hg5 hb
         have hc6 := hc5.below hb
         have hs6 := HSC.out _ hg6
         have hf := HFI.out w6 hc6 hg6
         clear z0 z1 z2 z3 z4 hfm hfp hfk
         obtain ⟨_, _, z2, z3, z4, ⟨_, z0⟩, ⟨_, z1⟩, hfm, hfp, hfk⟩ := hf)
      | (refine (HAT.out w4 hg4).mono ?_
         rintro e w6 ⟨rfl, hb⟩
         have hg6 := gb_below hg4 hb
         have hc6 := hc4.below hb
         have hs6 := HSC.out _ hg6)
      | (refine (HAT.out _ (by first | exact gb_refl _ _ | exact gb_drew (gb_refl _ _))).mono ?_
         rintro e w6 ⟨rfl, hb⟩
         have hb6 : Below w3.heap.size w3 w6 := by first | exact hb | exact bl_trans (Below.refl w3.heap.size w3).drew hb
         have hs6 := HSC.out _ (gb_below (gb_refl w3 c) hb6)))))
 all_goals
   have HMC := Hd hfm
   have HPC := Hd hfp
   have HKC := Hd (((KeepT.of_below HB1.out).trans HK3.out).trans hfk)
   clear hfm hfp hfk z0 z1 z2 z3 z4
   go_wp2_with fail
   go_end0
   exact ⟨rfl, ⟨sq, _, _, HMC.out, HPC.out⟩, HKC.out⟩
def ChkAt (L : List ClassR) (c : Nm) (m : MethR) (z : Nat) (f : FrR) : Prop :=
 ∃ fr : Int → Option FrR, resF L m.code.length (lkFn L c m) ⟨fr, [z]⟩ ≠ none ∧ LkOk L m.code.length ⟨fr, [z]⟩ ∧ fr (z : Int) = some f ∧ ∀ y : Int, (z : Int) < y → fr y = none
theorem chk_step {L : List ClassR} {c : Nm} {m : MethR} (hh : m.hs = []) {z : Nat} {fr : Int → Option FrR} {f : FrR} {x : InsR} (hne : resF L m.code.length (lkFn L c m) ⟨fr, [z]⟩ ≠ none) (hf : fr (z : Int) = some f) (hx : m.code[z]? = some x) : ∃ out, afterF L c (givesL m) x f = some out := by
 cases ha : afterF L c (givesL m) x f with
 | some out => exact ⟨out, rfl⟩
 | none =>
   exfalso
   refine hne (res_none (z := z) (r := []) rfl ?_)
   unfold lkFn lookF
   rw [show (LkSt.mk fr []).fr (z : Int) = some f from hf]
   simp only [Option.elim_some]
   rw [hs_skip (by rw [hh]; simp)]
   simp only [Option.elim_some, hx, ha, Option.elim_none]
theorem chk_next {l : List ClassR} (hg : Good l) {c : Nm} {m : MethR} (hm : MOk m) (hh : m.hs = []) {z : Nat} {f : FrR} {x : InsR} (h : ChkAt (wl l) c m z f) (hx : m.code[z]? = some x) (hn : aft m.code z = [z + 1]) : ∃ out, afterF (wl l) c (givesL m) x f = some out ∧ ChkAt (wl l) c m (z + 1) out := by
 obtain ⟨fr, h1, h2, h3, h4⟩ := h
 obtain ⟨out, ho⟩ := chk_step hh h1 h3 hx
 refine ⟨out, ho, updF fr ((z + 1 : Nat) : Int) out, ?_, ?_, updF_same _ _ _, fun y hy => ?_⟩
 · have e := lk_next (r := []) h3 (by rw [hh]; simp) hx ho hn (h4 _ (by omega))
   obtain ⟨e1, _, _⟩ := res_some (lk_step (c := c) hg hm) h2 (z := z) (r := []) rfl e
   rw [e1] at h1
   simpa using h1
 · have e := lk_next (r := []) h3 (by rw [hh]; simp) hx ho hn (h4 _ (by omega))
   obtain ⟨_, e1, _⟩ := res_some (lk_step (c := c) hg hm) h2 (z := z) (r := []) rfl e
   simpa using e1
 · rw [updF_other _ _ _ (by omega)]
   exact h4 y (by omega)
theorem chk_end {L : List ClassR} {c : Nm} {m : MethR} (hh : m.hs = []) {z : Nat} {f : FrR} {x : InsR} (h : ChkAt L c m z f) (hx : m.code[z]? = some x) : ∃ out, afterF L c (givesL m) x f = some out := by
 obtain ⟨fr, h1, _, h3, _⟩ := h
 exact chk_step hh h1 h3 hx
theorem chk_start {l : List ClassR} {c : Nm} {m : MethR} (hm : MOk m) (h : lookedF (wl l) c m ≠ none) (hn : 0 < m.code.length) : ChkAt (wl l) c m 0 (firstF c m) := by
 unfold lookedF at h
 split at h
 · exact absurd rfl h
 rename_i h1
 split at h
 · exact absurd rfl h
 refine ⟨updF (fun _ => none) 0 (firstF c m), h, start_ok (first_kok hm (by simpa using h1)) hn, updF_same _ _ _, fun y hy => updF_other _ _ _ (by omega)⟩
def mainN : Nm := [109, 97, 105, 110]
def main9 : Nm := [77, 97, 105, 110, 57]
def topI (c a b : Nm) (k : Int) : List InsR := [⟨15, 0, 0, [], c, []⟩, ⟨5, 0, 0, [], [], []⟩, ⟨4, 0, 0, [], [], []⟩, ⟨2, k, 0, [73], [], []⟩, ⟨17, 0, 0, [], c, a⟩, ⟨4, 0, 0, [], [], []⟩, ⟨16, 0, 0, [], c, b⟩, ⟨27, 0, 0, [], [], []⟩]
def topM (c a b : Nm) (k : Int) : MethR := ⟨mainN, [40, 41, 73], true, false, false, 8, topI c a b k, []⟩
def topC (c a b : Nm) (k : Int) : ClassR := ⟨main9, objN, [], false, [], [topM c a b k]⟩
theorem top_ty : MethodOk [40, 41, 73] [] [73] := ⟨rfl, by simp, by simp, Or.inr (num_type (by decide))⟩
theorem does_int {L : List ClassR} {t : Nm} (ht : TypeOk t) (hk : kindErr L t = 0) (h : doesX L [73] t = true ∨ doesX L t [73] = true) : t = [73] := by
 obtain ⟨k, hk2, rfl⟩ := kind_zero.1 hk
 have hI : kd L [73] = .ty 0 .int := kd_text (k := .ty 0 .int) (L := L) ⟨by omega, trivial⟩
 unfold doesX at h
 rw [hI, kd_text hk2] at h
 cases k with
 | nul =>
   obtain ⟨d, b, h1, _⟩ := type_kd.1 ht
   exact absurd (Or.inl h1.symm) (ty_nt d b)
 | top =>
   obtain ⟨d, b, h1, _⟩ := type_kd.1 ht
   exact absurd (Or.inr h1.symm) (ty_nt d b)
 | ty d b =>
   cases d with
   | zero =>
     cases b with
     | int => rfl
     | long => simp [doesK, doesT, Bse.isRef] at h
     | cls n => simp [doesK, doesT, Bse.isRef] at h
   | succ d => simp [doesK, doesT] at h
theorem field_typeOk {l : List ClassR} (hg : Good l) {c n x : Nm} {f : FieldR} (h : fieldOf (wl l) c n = some (x, f)) : TypeOk f.ty := by
 obtain ⟨_, hm⟩ := fieldOf_mem h
 unfold slotsF at hm
 obtain ⟨y, _, hy⟩ := List.mem_flatMap.1 hm
 unfold addF fieldsAt at hy
 cases hl : look (wl l) y with
 | none => rw [hl] at hy; simp at hy
 | some d =>
   rw [hl] at hy
   simp only [Option.elim_some, List.mem_map, Prod.mk.injEq] at hy
   obtain ⟨f2, hf2, _, rfl⟩ := hy
   have hd := (find_name hl).2
   unfold wl at hd
   simp only [List.mem_cons] at hd
   rcases hd with rfl | rfl | hd
   · simp [objC] at hf2
   · simp [fltC] at hf2
   · obtain ⟨_, _, _, h4, _⟩ := classErr_ok (hg.ok d hd)
     obtain ⟨j, hj⟩ := List.mem_iff_getElem?.1 hf2
     have := h4 j (List.getElem?_eq_some_iff.1 hj).1
     unfold fieldErr at this
     rw [hj] at this
     simp only [Option.elim_some] at this
     split at this
     · omega
     rename_i h5
     simp only [not_or, Decidable.not_not] at h5
     exact Classical.not_not.1 h5.2
theorem takeF_two {L : List ClassR} {t u s v : Nm} {lo A : List Nm} {g : FrR} (h : takeF L [t, u] ⟨lo, A ++ [s] ++ [v]⟩ = some g) : kindErr L t = 0 ∧ doesX L v t = true ∧ kindErr L u = 0 ∧ doesX L s u = true ∧ g = ⟨lo, A⟩ := by
 unfold takeF at h
 split at h
 · cases h
 rename_i h1
 rw [popF_snoc rfl] at h
 simp only [Option.elim_some] at h
 split at h
 · rename_i h2
   unfold takeF at h
   split at h
   · cases h
   rename_i h3
   rw [popF_snoc rfl] at h
   simp only [Option.elim_some] at h
   split at h
   · rename_i h4
     simp only [takeF, Option.some.injEq] at h
     exact ⟨by simpa using h1, h2, by simpa using h3, h4, h.symm⟩
   · cases h
 · cases h
theorem takeF_one {L : List ClassR} {t v : Nm} {lo A : List Nm} {g : FrR} (h : takeF L [t] ⟨lo, A ++ [v]⟩ = some g) : kindErr L t = 0 ∧ doesX L v t = true ∧ g = ⟨lo, A⟩ := by
 unfold takeF at h
 split at h
 · cases h
 rename_i h1
 rw [popF_snoc rfl] at h
 simp only [Option.elim_some] at h
 split at h
 · rename_i h2
   simp only [takeF, Option.some.injEq] at h
   exact ⟨by simpa using h1, h2, h.symm⟩
 · cases h
theorem fldF_some {L : List ClassR} {c n t : Nm} (h : fldF L c n = some t) : kindErr L t = 0 ∧ ∃ x f, fieldOf L c n = some (x, f) ∧ f.ty = t := by
 unfold fldF at h
 split at h
 · cases h
 cases hf : fieldOf L c n with
 | none => rw [hf] at h; cases h
 | some p =>
   rw [hf] at h
   simp only [Option.elim_some] at h
   split at h
   · cases h
   · rename_i h1
     simp only [Option.some.injEq] at h
     exact ⟨by rw [← h]; simpa using h1, p.1, p.2, rfl, h⟩
theorem top_checked {l : List ClassR} {c a b : Nm} {k : Int} (hg : Good l) (hm : MOk (topM c a b k)) (h : lookedF (wl l) main9 (topM c a b k) ≠ none) :
   (∃ x f, fieldOf (wl l) c a = some (x, f) ∧ f.ty = [73]) ∧ ∃ x f, fieldOf (wl l) c b = some (x, f) ∧ f.ty = [73] := by
 obtain ⟨ha, hgv⟩ := args_of (m := topM c a b k) top_ty
 have hf : firstF main9 (topM c a b k) = ⟨List.replicate 8 [84], []⟩ := by
   unfold firstF givenL
   rw [ha]
   rfl
 have c0 := chk_start hm h (by simp [topM, topI])
 rw [hf] at c0
 obtain ⟨f1, a1, c1⟩ := chk_next hg hm rfl c0 (x := ⟨15, 0, 0, [], c, []⟩) rfl rfl
 have e1 : f1 = ⟨List.replicate 8 [84], [thing c]⟩ := by
   unfold afterF plainF heapF at a1
   simp only [Option.elim_some] at a1
   simp at a1
   obtain ⟨_, _, a1⟩ := a1
   simpa [putF] using a1.symm
 subst e1
 obtain ⟨f2, a2, c2⟩ := chk_next hg hm rfl c1 (x := ⟨5, 0, 0, [], [], []⟩) rfl rfl
 have e2 : f2 = ⟨thing c :: List.replicate 7 [84], []⟩ := by
   unfold afterF plainF heapF at a2
   simpa [popF] using a2.symm
 subst e2
 obtain ⟨f3, a3, c3⟩ := chk_next hg hm rfl c2 (x := ⟨4, 0, 0, [], [], []⟩) rfl rfl
 have e3 : f3 = ⟨thing c :: List.replicate 7 [84], [thing c]⟩ := by
   unfold afterF plainF heapF at a3
   have : thing c ≠ [84] := by simp [thing]
   simpa [putF, this] using a3.symm
 subst e3
 obtain ⟨f4, a4, c4⟩ := chk_next hg hm rfl c3 (x := ⟨2, k, 0, [73], [], []⟩) rfl rfl
 have e4 : f4 = ⟨thing c :: List.replicate 7 [84], [thing c, [73]]⟩ := by
   unfold afterF plainF heapF at a4
   simpa [putF] using a4.symm
 subst e4
 obtain ⟨f5, a5, c5⟩ := chk_next hg hm rfl c4 (x := ⟨17, 0, 0, [], c, a⟩) rfl rfl
 have e5 : ∃ t, fldF (wl l) c a = some t ∧ takeF (wl l) [t, thing c] ⟨thing c :: List.replicate 7 [84], [thing c, [73]]⟩ = some f5 := by
   generalize thing c :: List.replicate 7 [84] = lo at a5 ⊢
   unfold afterF plainF heapF at a5
   simp only [Option.elim_some] at a5
   cases hq : fldF (wl l) c a with
   | none => simp [hq] at a5
   | some t => exact ⟨t, rfl, by simpa [hq] using a5⟩
 obtain ⟨t, ht, htk⟩ := e5
 obtain ⟨hk1, hd1, _, _, rfl⟩ := takeF_two (A := []) htk
 obtain ⟨_, xa, fa, hfa, hta⟩ := fldF_some ht
 obtain ⟨f6, a6, c6⟩ := chk_next hg hm rfl c5 (x := ⟨4, 0, 0, [], [], []⟩) rfl rfl
 have e6 : f6 = ⟨thing c :: List.replicate 7 [84], [thing c]⟩ := by
   unfold afterF plainF heapF at a6
   have : thing c ≠ [84] := by simp [thing]
   simpa [putF, this] using a6.symm
 subst e6
 obtain ⟨f7, a7, c7⟩ := chk_next hg hm rfl c6 (x := ⟨16, 0, 0, [], c, b⟩) rfl rfl
 have e7 : ∃ t, fldF (wl l) c b = some t ∧ f7 = ⟨thing c :: List.replicate 7 [84], [t]⟩ := by
   generalize thing c :: List.replicate 7 [84] = lo at a7 ⊢
   unfold afterF plainF heapF at a7
   simp only [Option.elim_some] at a7
   cases hq : fldF (wl l) c b with
   | none => simp [hq] at a7
   | some t =>
     refine ⟨t, rfl, ?_⟩
     cases ht2 : takeF (wl l) [thing c] ⟨lo, [thing c]⟩ with
     | none => simp [hq, ht2, putO] at a7
     | some g =>
       obtain ⟨_, _, rfl⟩ := takeF_one (A := []) ht2
       simpa [hq, ht2, putO, putF] using a7.symm
 obtain ⟨u, hu, rfl⟩ := e7
 obtain ⟨_, xb, fb, hfb, htb⟩ := fldF_some hu
 obtain ⟨f8, a8⟩ := chk_end (m := topM c a b k) rfl c7 (x := ⟨27, 0, 0, [], [], []⟩) rfl
 have e8 : takeF (wl l) [[73]] ⟨thing c :: List.replicate 7 [84], [u]⟩ = some f8 := by
   rw [hgv] at a8
   generalize thing c :: List.replicate 7 [84] = lo at a8 ⊢
   unfold afterF plainF heapF at a8
   cases hq : takeF (wl l) [[73]] ⟨lo, [u]⟩ with
   | none => simp [hq] at a8
   | some g => simpa [hq] using a8
 obtain ⟨_, hd8, _⟩ := takeF_one (A := []) e8
 refine ⟨⟨xa, fa, hfa, ?_⟩, xb, fb, hfb, ?_⟩
 · have h1 := field_typeOk hg hfa
   rw [hta] at h1 ⊢
   exact does_int h1 hk1 (Or.inl hd1)
 · have h1 := field_typeOk hg hfb
   have h2 := (fldF_some hu).1
   rw [htb] at h1 ⊢
   exact does_int h1 h2 (Or.inr hd8)
theorem line_more {l : List ClassR} {d : ClassR} (hj : ∀ c ∈ l, joinErr (wl l) c = 0) (hd : d.nm ∉ names l) : ∀ (f : Nat) {c : Nm}, c ∈ names l → supers (wl (l ++ [d])) f c = supers (wl l) f c ∧ ∀ x ∈ supers (wl l) f c, x ∈ names l
 | 0, c, _ => by simp [supers]
 | f + 1, c, hc => by
   have hne : c ≠ d.nm := fun e => hd (e ▸ hc)
   have hl : look (wl (l ++ [d])) c = look (wl l) c := by rw [wl_append, look_append _ _ _ hne]
   cases hk : look (wl l) c with
   | none => unfold supers; rw [hl, hk]; exact ⟨rfl, by simp⟩
   | some k =>
     by_cases hs : k.sup = []
     · unfold supers; rw [hl, hk]; simp [hs]
     · have hu : k.sup ∈ names l := above_names hj c _ (sup_above hk hs)
       obtain ⟨h1, h2⟩ := line_more hj hd f hu
       unfold supers; rw [hl, hk]
       simp only [hs, if_false, h1]
       exact ⟨trivial, fun x hx => by
         rcases List.mem_cons.1 hx with rfl | hx
         · exact hu
         · exact h2 x hx⟩
theorem place_more {l : List ClassR} {d : ClassR} (hj : ∀ c ∈ l, joinErr (wl l) c = 0) (hd : d.nm ∉ names l) {c : Nm} (hc : c ∈ names l) (n : Nm) :
   fieldOf (wl (l ++ [d])) c n = fieldOf (wl l) c n ∧ slotsF (wl (l ++ [d])) c = slotsF (wl l) c ∧ placeF (wl (l ++ [d])) c n = placeF (wl l) c n := by
 obtain ⟨h1, h2⟩ := line_more hj hd 100 hc
 have hln : line (wl (l ++ [d])) c = line (wl l) c := by unfold line; rw [h1]
 have hmem : ∀ x ∈ line (wl l) c, look (wl (l ++ [d])) x = look (wl l) x := by
   intro x hx
   have : x ∈ names l := by
     unfold line at hx
     rcases List.mem_cons.1 hx with rfl | hx
     · exact hc
     · exact h2 x hx
   rw [wl_append, look_append _ _ _ (fun e => hd (e ▸ this))]
 have hf : fieldOf (wl (l ++ [d])) c n = fieldOf (wl l) c n := by
   unfold fieldOf
   rw [hln]
   generalize line (wl l) c = A at hmem
   induction A with
   | nil => rfl
   | cons x r ih =>
     have hx := hmem x (by simp)
     have he : fldAt (wl (l ++ [d])) n x = fldAt (wl l) n x := by unfold fldAt; rw [hx]
     simp only [List.findSome?_cons, he, ih (fun y hy => hmem y (by simp [hy]))]
 have hs : slotsF (wl (l ++ [d])) c = slotsF (wl l) c := by
   unfold slotsF
   rw [hln]
   have hmem' : ∀ x ∈ (line (wl l) c).reverse, look (wl (l ++ [d])) x = look (wl l) x := fun x hx => hmem x (by simpa using hx)
   generalize (line (wl l) c).reverse = A at hmem'
   induction A with
   | nil => rfl
   | cons x r ih =>
     have hx := hmem' x (by simp)
     have he : addF (wl (l ++ [d])) x = addF (wl l) x := by unfold addF fieldsAt; rw [hx]
     simp only [List.flatMap_cons, he, ih (fun y hy => hmem' y (by simp [hy]))]
 exact ⟨hf, hs, by unfold placeF; rw [hf, hs]⟩
theorem placeF_lt {L : List ClassR} {c n : Nm} {i : Nat} (h : placeF L c n = some i) : i < (slotsF L c).length := by
 unfold placeF at h
 cases hf : fieldOf L c n with
 | none => rw [hf] at h; cases h
 | some x =>
   rw [hf] at h
   exact (List.findIdx?_eq_some_iff_getElem.1 h).1
abbrev theR : ValR := ⟨3, 1⟩
abbrev lo8 : List ValR := List.replicate 8 ⟨0, 0⟩
abbrev lo9 : List ValR := theR :: List.replicate 7 ⟨0, 0⟩
def topSt (k : Int) (v : ValR) : Nat → List ValR
 | 1 => [theR]
 | 3 => [theR]
 | 4 => [theR, ⟨1, k⟩]
 | 6 => [theR]
 | 7 => [v]
 | _ => []
def topLo : Nat → List ValR
 | 0 => lo8
 | 1 => lo8
 | _ => lo9
def topX (c : Nm) (zs zk : List ValR) : Nat → List ThingR
 | 0 => []
 | 1 => [⟨thing c, zs⟩]
 | 2 => [⟨thing c, zs⟩]
 | 3 => [⟨thing c, zs⟩]
 | 4 => [⟨thing c, zs⟩]
 | _ => [⟨thing c, zk⟩]
theorem top_run (l : List ClassR) (L : List CP) (c x y : Nm) (z : Int) (i j : Nat) (v : ValR) (W0 w : World) (K k9 lb cs cc b : Nat) (cl : Nm) (q : MAddr) (lq : HA) (hW : WOk W0 b l L) (hn : nameOk c = true) (hl : (look (wl l) c).isSome = true)
   (hi : placeF (wl l) c x = some i) (hj : placeF (wl l) c y = some j) (hv : (((typesF (wl l) c).map zeroV).set i ⟨1, z⟩)[j]? = some v)
   (hM : MacAt W0 w K k9 lb cs cc b (.slice none 0 0) 0 cl (topM c x y z) q 0 lo8 [] lq (none, 0)) (hC : CodeAt W0 q.ca q.cc (topM c x y z).code) :
   Calls Tryz.prog 38 #[.pointer (some ⟨K, 0, none⟩), .int .i64 100] w fun e w' => e = .returned .nilIface ∧ (∃ hv cv, Blk w' K 104 (macArr b hv cv v.kind v.n [] 8 true)) ∧ KeepT w w' ∧ Below W0.heap.size W0 w' := by
 have hcn : c.length ≤ 1000 := by have := (name_len hn).2; omega
 have hzl : ((typesF (wl l) c).map zeroV).length ≤ 104 := by rw [List.length_map]; exact typesF_len hW.good c
 have hil : i < ((typesF (wl l) c).map zeroV).length := by
   have := placeF_lt hi
   unfold typesF
   rw [List.length_map, List.length_map]
   exact this
 obtain ⟨zs, hzs⟩ : ∃ zs, zs = (typesF (wl l) c).map zeroV := ⟨_, rfl⟩
 obtain ⟨k, hk⟩ : ∃ k : MK, k = ⟨K, k9, lb, cs, cc, b, cl, topM c x y z, q, lq⟩ := ⟨_, rfl⟩
 have hcode : CodeAt W0 k.q.ca k.q.cc k.m.code := by rw [hk]; exact hC
 have hkm : k.m.code = topI c x y z := by rw [hk]; rfl
 have hml : k.m.code.length ≤ 1000 := by rw [hkm]; simp [topI]
 have hWk : WOk W0 k.b l L := by rw [hk]; exact hW
 have h0 : MSt W0 k 0 0 lo8 [] [] w := by rw [hk]; exact ⟨_, _, [], hM, HpAt.start _ _ _ _⟩
 have key := trace_all (W0 := W0) (k := k) 8 (fun i => i) topLo (topSt z v) (topX c zs (zs.set i ⟨1, z⟩)) 100 v.kind v.n [] w (by omega) (by omega) (by omega) h0 (fun n hn8 W h => ?_) (fun W h => ?_)
 · rw [hk] at key
   exact key
 · obtain rfl | rfl | rfl | rfl | rfl | rfl | rfl : n = 0 ∨ n = 1 ∨ n = 2 ∨ n = 3 ∨ n = 4 ∨ n = 5 ∨ n = 6 := by omega
   · refine st_heap2 (p := 0) (st := []) (st' := [] ++ [theR]) (X := []) (X' := [⟨thing c, zs⟩]) ⟨15, 0, 0, [], c, []⟩ hcode (by rw [hkm]; rfl) hml rfl rfl rfl rfl rfl (fun W' sq hh => plain_15 _ _ _ _ _ _ 0 0 0 lo8 [] [] c [] _ sq W' hh (by omega)) (fun W' h' => ?_) W h
     have := heaped_new l L c hWk hn hl (by simp) W' h'
     rw [← hzs] at this
     exact this
   · exact st_plain2 (p := 1) (p' := 2) (lo := lo8) (lo' := lo9) (st := [] ++ [theR]) (st' := []) ⟨5, 0, 0, [], [], []⟩ hcode (by rw [hkm]; rfl) hml rfl rfl rfl rfl rfl
       (fun W' sq hh => plain_store _ _ _ _ _ _ 1 0 0 lo8 [] theR [] [] [] _ sq W' hh (by omega) (by simp) (by simp) (by simp)) (fun W' => heaped_5 _ _ 0 0 [] [] [] W') W h
   · exact st_plain2 (p := 2) (p' := 3) (lo := lo9) (lo' := lo9) (st := []) (st' := [] ++ [theR]) ⟨4, 0, 0, [], [], []⟩ hcode (by rw [hkm]; rfl) hml rfl rfl rfl rfl rfl
       (fun W' sq hh => plain_load _ _ _ _ _ _ 2 0 0 lo9 [] theR [] [] [] _ sq W' hh (by omega) (by simp) (by simp) rfl) (fun W' => heaped_4 _ _ 0 0 [] [] [] W') W h
   · exact st_plain2 (p := 3) (p' := 4) (lo := lo9) (lo' := lo9) (st := [theR]) (st' := [theR] ++ [(⟨1, z⟩ : ValR)]) ⟨2, z, 0, [73], [], []⟩ hcode (by rw [hkm]; rfl) hml rfl rfl rfl rfl rfl
       (fun W' sq hh => plain_push _ _ _ _ _ _ 3 z 0 lo9 [theR] [] [] _ sq W' hh (by omega) (by simp)) (fun W' => heaped_2 _ _ z 0 [73] [] [] W') W h
   · have h : MSt W0 k (((4 : Nat) : Int) + 1) 4 lo9 ([] ++ [theR] ++ [(⟨1, z⟩ : ValR)]) [⟨thing c, zs⟩] W := by
       have e1 : topLo 4 = lo9 := rfl
       have e2 : topSt z v 4 = [] ++ [theR] ++ [(⟨1, z⟩ : ValR)] := rfl
       have e3 : topX c zs (zs.set i ⟨1, z⟩) 4 = [⟨thing c, zs⟩] := rfl
       rw [← e1, ← e2, ← e3]
       exact h
     refine st_heap2 (p := 4) (lo := lo9) (st := [] ++ [theR] ++ [(⟨1, z⟩ : ValR)]) (st' := []) (X := [⟨thing c, zs⟩]) (X' := [⟨thing c, zs.set i ⟨1, z⟩⟩]) ⟨17, 0, 0, [], c, x⟩ hcode (by rw [hkm]; rfl) hml rfl rfl rfl rfl rfl (fun W' sq hh => plain_17 _ _ _ _ _ _ 4 0 0 lo9 _ [] c x _ sq W' hh (by omega)) (fun W' h' => ?_) W h
     exact heaped_put l L (x := ⟨thing c, zs⟩) c x i ⟨1, z⟩ hWk hcn hi (by rw [hzs]; exact hil) (by simp) (by show zs.length ≤ _; rw [hzs]; omega) W' h'
   · exact st_plain2 (p := 5) (p' := 6) (lo := lo9) (lo' := lo9) (st := []) (st' := [] ++ [theR]) ⟨4, 0, 0, [], [], []⟩ hcode (by rw [hkm]; rfl) hml rfl rfl rfl rfl rfl
       (fun W' sq hh => plain_load _ _ _ _ _ _ 5 0 0 lo9 [] theR [] [] [] _ sq W' hh (by omega) (by simp) (by simp) rfl) (fun W' => heaped_4 _ _ 0 0 [] [] [] W') W h
   · refine st_heap2 (p := 6) (lo := lo9) (st := [] ++ [theR]) (st' := [] ++ [v]) (X := [⟨thing c, zs.set i ⟨1, z⟩⟩]) (X' := [⟨thing c, zs.set i ⟨1, z⟩⟩]) ⟨16, 0, 0, [], c, y⟩ hcode (by rw [hkm]; rfl) hml rfl rfl rfl rfl rfl (fun W' sq hh => plain_16 _ _ _ _ _ _ 6 0 0 lo9 _ [] c y _ sq W' hh (by omega)) (fun W' h' => ?_) W h
     exact heaped_get l L (x := ⟨thing c, zs.set i ⟨1, z⟩⟩) c y j v hWk hcn hj (by rw [hzs]; exact hv) (by simp) (by show (zs.set i ⟨1, z⟩).length ≤ _; rw [List.length_set, hzs]; omega) W' h'
 · exact st_give2 (p := 7) (v := v) ⟨27, 0, 0, [], [], []⟩ hcode (by rw [hkm]; rfl) hml rfl W h
end Go.Proofs.YtfimajijegohmaaGreatDoor
