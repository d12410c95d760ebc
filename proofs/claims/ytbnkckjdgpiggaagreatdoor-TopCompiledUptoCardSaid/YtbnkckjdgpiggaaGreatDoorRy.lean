import Derived.Test.YtbnkckjdgpiggaaGreatDoorRc
namespace Go.Proofs.YtbnkckjdgpiggaaGreatDoor
set_option maxRecDepth 100000
set_option maxHeartbeats 16000000
set_option linter.unusedVariables false
set_option linter.unusedSimpArgs false
open Go.RowKit Go.Shelf Go.Lib
def faultP : List PanicEntry := [{ v := .iface 150 (.agg #[]), recovered := false }]
theorem zng (w : World) : Calls Tryz.prog 95 #[.bool true] w fun e w' => e = .returned (.tuple #[]) /\ w' = w := by
 go_enter Tryz.func95, Tryz.ntmps95
 go_wp2_with fail
 go_end0
 exact ⟨rfl, rfl⟩
theorem zrf (w : World) : Calls Tryz.prog 137 #[.string ⟨⟨[73]⟩⟩] w fun e w' => e = .returned (.int .i64 1) /\ w = w' := by
 go_enter Tryz.func137, Tryz.ntmps137
 go_wp2_with fail
 go_ret
 exact ⟨rfl, rfl⟩
def Is32 (a : Int) : Prop := -2147483648 <= a /\ a <= 2147483647
def quo32 (a b : Int) : Int := wrap32 (a.tdiv b)
open Go.Sort
theorem z2y (K c : Nat) (ia ib : Int) (ty cl nm : Nm) (w : World) :
   Calls Tryz.prog 97 #[.pointer (some ⟨K, 0, none⟩), .pointer (some ⟨c, 0, none⟩), .agg #[.int .i64 2, .int .i64 ia, .int .i64 ib, .string ⟨⟨ty⟩⟩, .string ⟨⟨cl⟩⟩, .string ⟨⟨nm⟩⟩]] w fun e w' => e = .returned (.tuple #[]) /\ Below w.heap.size w w' := by
 have HB := Hq (fun o => ze (Below.refl w.heap.size w) o)
 go_enter Tryz.func97, Tryz.ntmps97
 go_wp2_with fail
 go_end0
 exact ⟨rfl, HB.out _⟩
theorem zpl (K c : Nat) (ia ib : Int) (ty cl nm : Nm) (w : World) :
   Calls Tryz.prog 97 #[.pointer (some ⟨K, 0, none⟩), .pointer (some ⟨c, 0, none⟩), .agg #[.int .i64 9, .int .i64 ia, .int .i64 ib, .string ⟨⟨ty⟩⟩, .string ⟨⟨cl⟩⟩, .string ⟨⟨nm⟩⟩]] w fun e w' => e = .returned (.tuple #[]) /\ Below w.heap.size w w' := by
 have HB := Hq (fun o => ze (Below.refl w.heap.size w) o)
 go_enter Tryz.func97, Tryz.ntmps97
 go_wp2_with fail
 go_end0
 exact ⟨rfl, HB.out _⟩
theorem z0n (a b : Int) (h : -9223372036854775808 <= a + b /\ a + b <= 9223372036854775807) (w : World) : Calls Tryz.prog 66 #[.int .i64 1, .int .i64 a, .int .i64 b] w fun e w' => e = .returned (.tuple #[.int .i64 (a + b), .bool true]) /\ w = w' := by
 have hw : wrap64 (a + b) = a + b := by unfold wrap64; omega
 go_enter Tryz.func66, Tryz.ntmps66
 go_wp2_with fail
 go_ret2
 exact ⟨rfl, rfl⟩
theorem z69 (a b : Int) (ha : wrap32 a = a) (hb : wrap32 b = b) (w : World) : Calls Tryz.prog 36 #[.string ⟨⟨[73]⟩⟩, .int .i64 1, .int .i64 a, .int .i64 b] w fun e w' => e = .returned (.tuple #[.int .i64 (wrap32 (a + b)), .bool true]) /\ w = w' := by
 have HW := Hq (fun w => z0n a b (by unfold wrap32 at ha hb; omega) w)
 have HWD := Hq (fun x w => zmm x w)
 clear ha hb
 go_enter Tryz.func36, Tryz.ntmps36
 go_wp2_with fail
 refine (HW.out _).mono ?_
 rintro e w2 ⟨rfl, rfl⟩
 go_wp2_with fail
 refine (HWD.out _ _).mono ?_
 rintro e w2 ⟨rfl, rfl⟩
 go_wp2_with fail
 go_ret2
 exact ⟨rfl, rfl⟩
theorem zmj {a : Option Addr} {n n' c c' : Nat} : (Value.slice a n c).ownBlock = (Value.slice a n' c').ownBlock := by cases a <;> rfl
theorem z2q (B c lb : Nat) (cl : Nm) (m : zo) (q : zaf) (pc : Int) (lo st : List zbz) (x y : zbz) (ib : Int) (cn nm : Nm) (lq sq : HA) (w : World) (h : za0 w B c lb cl m q pc lo (st ++ [x] ++ [y]) lq sq) (hl : st.length <= 900) (ia kd r : Int) (ty : Nm) (h12 : (ia == 12) = false) (hOf : ∀ W, Calls Tryz.prog 36 #[.string ⟨⟨ty⟩⟩, .int .i64 ia, .int .i64 x.n, .int .i64 y.n] W fun e w' => e = .returned (.tuple #[.int .i64 r, .bool true]) /\ W = w') (hKd : ∀ W, Calls Tryz.prog 137 #[.string ⟨⟨ty⟩⟩] W fun e w' => e = .returned (.int .i64 kd) /\ W = w') :
   Calls Tryz.prog 138 #[.pointer (some ⟨c, 0, none⟩), .agg #[.int .i64 9, .int .i64 ia, .int .i64 ib, .string ⟨⟨ty⟩⟩, .string ⟨⟨cn⟩⟩, .string ⟨⟨nm⟩⟩]] w fun e w' => e = .returned (.tuple #[]) /\ ∃ sq', za0 w' B c lb cl m q pc lo (st ++ [⟨kd, r⟩]) lq sq' /\ KbR c lb (hsV (st ++ [x] ++ [y]) sq) w w' /\ VUp w (hsV (st ++ [x] ++ [y]) sq) (hsV (st ++ [⟨kd, r⟩]) sq') := by
 have hfd : ∀ (a b : Int) (W : World), (Instr.field 54 (.agg #[.int .i64 a, .int .i64 b]) 1).run Tryz.prog W = .ok (.int .i64 b) W := fun _ _ _ => by kernel_rfl
 obtain ⟨W, hW⟩ : ∃ W, W = (w.alloc (.cells #[.int .i64 9, .int .i64 ia, .int .i64 ib, .string ⟨⟨ty⟩⟩, .string ⟨⟨cn⟩⟩, .string ⟨⟨nm⟩⟩] 40)).alloc (.cells #[.int .i64 0, .int .i64 0] 54) := ⟨_, rfl⟩
 have hbW : Below w.heap.size w W := by rw [hW]; exact ze (ze (Below.refl _ _) _) _
 have HX := Hq (show Blk W w.heap.size 40 #[.int .i64 9, .int .i64 ia, .int .i64 ib, .string ⟨⟨ty⟩⟩, .string ⟨⟨cn⟩⟩, .string ⟨⟨nm⟩⟩] by rw [hW]; exact (zg _ _ _ _ rfl).alloc _)
 have HV := Hq (show Blk W (w.heap.size + 1) 54 #[.int .i64 0, .int .i64 0] by rw [hW]; exact zg _ _ _ _ (by simp))
 have HS := Hq (h.below hbW)
 have HBW := Hq hbW
 have hcw : c < w.heap.size := h.blk.lt
 have HP1 := Hq (zhe B c lb cl m q pc lo (st ++ [x]) y lq sq W HS.out (by simp; omega))
 have HLB := Hq (show lb < w.heap.size from by
   rcases h.lb with e | ⟨_, e⟩
   . exact (h.low.lt _ e).2
   . rw [e]; exact hcw)
 have HSQ := Hq (show ∀ k, (hsV (st ++ [x] ++ [y]) sq).ownBlock = some k -> k < w.heap.size from fun k hk => (h.sow.lt k hk).2)
 have x1 := HX.out.cell 1
 have x9 := HX.out.lt
 clear h hbW
 unfold vV at HP1
 go_enter Tryz.func138, Tryz.ntmps138
 go_upto_region 2 with fail
 rw [<- hW]
 clear hW
 go_wp2_with fail
 refine HP1.out.mono ?_
 rintro e w2 ⟨rfl, hc2, hg2⟩
 have hV2 := zac hg2 HV.out (by omega)
 have HX2 := Hq (zac hg2 HX.out (by omega))
 have v0 := hV2.cell 0
 have v1 := hV2.cell 1
 have v2 := hV2.frozen 0
 have v3 := hV2.frozen 1
 have v4 := hV2.lt
 obtain ⟨w3, hw3⟩ : ∃ w3, w3 = (w2.setCell ⟨w.heap.size + 1, 0, none⟩ (.int .i64 y.kind)).setCell ⟨w.heap.size + 1, 1, none⟩ (.int .i64 y.n) := ⟨_, rfl⟩
 have hb23 : w2.grownBy w3 (some (w.heap.size + 1)) := by rw [hw3]; exact zai (zai (zp _ _) 0 _) 1 _
 have HV3 := Hq (show Blk w3 (w.heap.size + 1) 54 #[.int .i64 y.kind, .int .i64 y.n] by rw [hw3]; exact zm (zm hV2 0 _) 1 _)
 have HX3 := Hq (zac hb23 HX2.out (by omega))
 have HC3 := Hq (show za0 w3 B c lb cl m q pc lo (st ++ [x]) lq sq from
   ⟨zac hb23 hc2.blk (by omega), zdg hc2.low (fun g hg => hb23.block g (hc2.low.lt g hg).2 (fun e => by
     have h1 : g = w.heap.size + 1 := by simpa using e
     rcases hc2.lb with e2 | ⟨e2, _⟩
     . rw [hg] at e2; have := HLB.out; simp at e2; omega
     . rw [hg] at e2; cases e2)), zdg hc2.sow (fun g hg => hb23.block g (hc2.sow.lt g hg).2 (fun e => by
     have h1 : g = w.heap.size + 1 := by simpa using e
     have h2 := HSQ.out g (zmj.trans hg)
     omega)), hc2.ap, hc2.lb, hc2.cB⟩)
 have HK3 := Hq (show KbR c lb (hsV (st ++ [x] ++ [y]) sq) w w3 from ⟨(hb23.os.trans hg2.os).trans HBW.out.os, (hb23.tape.trans hg2.tape).trans HBW.out.tape, (hb23.output.trans hg2.output).trans HBW.out.output, Nat.le_trans HBW.out.size (Nat.le_trans hg2.size hb23.size), fun k hk n1 n2 n3 => by
   have h1 := HBW.out.size
   have h2 := hg2.size
   rw [hb23.block k (by omega) (by intro e; simp at e; omega), hg2.block k (by omega) (by intro e; simp at e; exact n1 e), HBW.out.block k hk]⟩)
 have HPO := Hq (fun W' (hw : Below w3.heap.size w3 W') => zhe B c lb cl m q pc lo st x lq sq W' (HC3.out.below hw) (by omega))
 have HSC := Hq (fun W' (hw : Below w3.heap.size w3 W') => (show W'.cell? ⟨w.heap.size, 1, none⟩ = some (.int .i64 ia) /\ W'.cell? ⟨w.heap.size, 3, none⟩ = some (.string ⟨⟨ty⟩⟩) /\ W'.cell? ⟨w.heap.size + 1, 1, none⟩ = some (.int .i64 y.n) from ⟨(HX3.out.below hw).cell 1, (HX3.out.below hw).cell 3, (HV3.out.below hw).cell 1⟩))
 have HSG := Hq (fun (W' W4 : World) (hw : Below w3.heap.size w3 W') (hg : W'.grownBy W4 (some c)) => (show W4.cell? ⟨w.heap.size, 1, none⟩ = some (.int .i64 ia) /\ W4.cell? ⟨w.heap.size, 3, none⟩ = some (.string ⟨⟨ty⟩⟩) /\ W4.cell? ⟨w.heap.size + 1, 1, none⟩ = some (.int .i64 y.n) from
   have hx := zac hg (HX3.out.below hw) (by omega)
   have hv := zac hg (HV3.out.below hw) (by omega)
   ⟨hx.cell 1, hx.cell 3, hv.cell 1⟩))
 have HOF := Hq hOf
 have HKD := Hq hKd
 have HGK := Hq (fun (W' W4 : World) (hw : Below w3.heap.size w3 W') (hg : W'.grownBy W4 (some c)) => show KbR c lb (hsV (st ++ [x] ++ [y]) sq) w W4 /\ w.heap.size < W4.heap.size from
   ⟨HK3.out.trans ((KbR.of_below hw).trans ⟨hg.os, hg.tape, hg.output, hg.size, fun k hk n1 _ _ => hg.block k hk (by intro e; simp at e; exact n1 e)⟩ (VUp.refl _ _)) (VUp.refl _ _), by have := HX3.out.lt; have := hw.size; have := hg.size; omega⟩)
 unfold vV at HPO
 clear hc2 hg2 hV2 hb23 x1 x9 hOf hKd
 go_upto_region 4 with fail
 rw [<- hw3]
 clear hw3 v0 v1 v2 v3 v4
 go_region_held3 (fun W' => W'.cell? ⟨w.heap.size, 1, none⟩ = some (.int .i64 ia) /\ W'.cell? ⟨w.heap.size, 3, none⟩ = some (.string ⟨⟨ty⟩⟩) /\ W'.cell? ⟨w.heap.size + 1, 1, none⟩ = some (.int .i64 y.n))
   (first | exact HSC.out _ (Below.refl _ _) | exact HSC.out _ (Below.refl _ _).drew | exact hs4)
   ((first
   | (go_at_call 94
      refine (HPO.out _ (by first | exact Below.refl _ _ | exact (Below.refl _ _).drew)).mono ?_
      rintro e w4 ⟨rfl, hc4, hg4⟩
      have hs4 := HSG.out _ w4 (by first | exact Below.refl _ _ | exact (Below.refl _ _).drew) hg4
      have hk4 := HGK.out _ w4 (by first | exact Below.refl _ _ | exact (Below.refl _ _).drew) hg4)
   | (go_at_call 36
      refine (HOF.out _).mono ?_
      rintro e wz ⟨rfl, rfl⟩)))
 all_goals
   have HC4 := Hq hc4
   have HK4 := Hq hk4
   have x3 := hs4.2.1
   have x9 := hk4.2
   clear hc4 hg4 hk4 hs4
   have HPU := Hq (zhr B c lb cl m q pc lo st ⟨kd, r⟩ lq sq w4 HC4.out (by omega))
   unfold vV at HPU
   go_wp2_with fail
   refine (zng _).mono ?_
   rintro e w5 ⟨rfl, rfl⟩
   go_wp2_with fail
   refine (HKD.out _).mono ?_
   rintro e wz ⟨rfl, rfl⟩
   go_wp2_with fail
   refine HPU.out.mono ?_
   rintro e w6 ⟨rfl, sq', hc6, hk6, hv6⟩
   have HC6 := Hq hc6
   have HK6 := Hq (HK4.out.1.trans (v1 := hsV st sq) hk6 (Or.inl zmj))
   have HV6 := Hq (show VUp w (hsV (st ++ [x] ++ [y]) sq) (hsV (st ++ [⟨kd, r⟩]) sq') from VUp.trans (v1 := hsV st sq) (Or.inl zmj) hv6 HK4.out.1.size)
   clear hc6 hk6 hv6
   go_wp2_with fail
   go_end0
   exact ⟨rfl, sq', HC6.out, HK6.out, HV6.out⟩
theorem znl (B c lb : Nat) (cl : Nm) (m : zo) (q : zaf) (p : Nat) (lo st : List zbz) (x y : zbz) (ib : Int) (cn nm : Nm) (lq sq : HA) (w : World) (h : za0 w B c lb cl m q p lo (st ++ [x] ++ [y]) lq sq) (hp : p <= 1000) (hl : st.length <= 900) (ia kd r : Int) (ty : Nm) (h12 : (ia == 12) = false) (hOf : ∀ W, Calls Tryz.prog 36 #[.string ⟨⟨ty⟩⟩, .int .i64 ia, .int .i64 x.n, .int .i64 y.n] W fun e w' => e = .returned (.tuple #[.int .i64 r, .bool true]) /\ W = w') (hKd : ∀ W, Calls Tryz.prog 137 #[.string ⟨⟨ty⟩⟩] W fun e w' => e = .returned (.int .i64 kd) /\ W = w') :
   Calls Tryz.prog 96 #[.pointer (some ⟨c, 0, none⟩), .agg #[.int .i64 9, .int .i64 ia, .int .i64 ib, .string ⟨⟨ty⟩⟩, .string ⟨⟨cn⟩⟩, .string ⟨⟨nm⟩⟩]] w (z6s B c lb cl m q p lo (st ++ [x] ++ [y]) lo (st ++ [⟨kd, r⟩]) lq sq ((p : Int) + 1) w) := by
 obtain ⟨W, hW⟩ : ∃ W, W = w.alloc (.cells #[.int .i64 9, .int .i64 ia, .int .i64 ib, .string ⟨⟨ty⟩⟩, .string ⟨⟨cn⟩⟩, .string ⟨⟨nm⟩⟩] 40) := ⟨_, rfl⟩
 have hbW : Below w.heap.size w W := by rw [hW]; exact ze (Below.refl _ _) _
 have HX := Hq (show Blk W w.heap.size 40 #[.int .i64 9, .int .i64 ia, .int .i64 ib, .string ⟨⟨ty⟩⟩, .string ⟨⟨cn⟩⟩, .string ⟨⟨nm⟩⟩] by rw [hW]; exact zg _ _ _ _ rfl)
 have HS := Hq (h.below hbW)
 have HBW := Hq hbW
 have c9 := HS.out.blk.cell 9
 have c12 := HS.out.blk.lt
 have x0 := HX.out.cell 0
 have x1 := HX.out.cell 1
 have x2 := HX.out.cell 2
 have x3 := HX.out.cell 3
 have x4 := HX.out.cell 4
 have x5 := HX.out.cell 5
 have x9 := HX.out.lt
 unfold zea at c9
 have HCA := Hq (z2q B c lb cl m q p lo st x y ib cn nm lq sq W HS.out hl ia kd r ty h12 hOf hKd)
 clear h hbW hOf hKd
 go_enter Tryz.func96, Tryz.ntmps96
 go_upto_region 1 with fail
 rw [<- hW]
 clear hW
 go_wp2_with fail
 refine HCA.out.mono ?_
 rintro e w4 ⟨rfl, sq', hc4, hk4, hv4⟩
 have HC4 := Hq hc4
 have HK4 := Hq ((KbR.of_below HBW.out).trans hk4 (VUp.refl _ _))
 have HV4 := Hq (show VUp w (hsV (st ++ [x] ++ [y]) sq) (hsV (st ++ [⟨kd, r⟩]) sq') from by
   rcases hv4 with h | h
   . exact Or.inl h
   . exact Or.inr (fun k hk => Nat.le_trans HBW.out.size (h k hk)))
 clear hc4 hk4 hv4 c9 x0 x1 x2 x3 x4 x5
 go_wp2_with fail
 go_ret
 exact ⟨rfl, sq', HC4.out, HK4.out, HV4.out⟩
theorem ztf (B c lb : Nat) (cl : Nm) (m : zo) (q : zaf) (p : Nat) (a ib : Int) (lo st : List zbz) (cn nm : Nm) (lq sq : HA) (w : World) (h : za0 w B c lb cl m q p lo st lq sq) (hp : p <= 1000) (hl : st.length <= 1000) (kd : Int) (ty : Nm) (hKd : ∀ W, Calls Tryz.prog 137 #[.string ⟨⟨ty⟩⟩] W fun e w' => e = .returned (.int .i64 kd) /\ W = w') :
   Calls Tryz.prog 96 #[.pointer (some ⟨c, 0, none⟩), .agg #[.int .i64 2, .int .i64 a, .int .i64 ib, .string ⟨⟨ty⟩⟩, .string ⟨⟨cn⟩⟩, .string ⟨⟨nm⟩⟩]] w (z6s B c lb cl m q p lo st lo (st ++ [⟨kd, a⟩]) lq sq ((p : Int) + 1) w) := by
 obtain ⟨W, hW⟩ : ∃ W, W = w.alloc (.cells #[.int .i64 2, .int .i64 a, .int .i64 ib, .string ⟨⟨ty⟩⟩, .string ⟨⟨cn⟩⟩, .string ⟨⟨nm⟩⟩] 40) := ⟨_, rfl⟩
 have hbW : Below w.heap.size w W := by rw [hW]; exact ze (Below.refl _ _) _
 have HX := Hq (show Blk W w.heap.size 40 #[.int .i64 2, .int .i64 a, .int .i64 ib, .string ⟨⟨ty⟩⟩, .string ⟨⟨cn⟩⟩, .string ⟨⟨nm⟩⟩] by rw [hW]; exact zg _ _ _ _ rfl)
 have HS := Hq (h.below hbW)
 have HBW := Hq hbW
 have HKD := Hq hKd
 have c9 := HS.out.blk.cell 9
 have c12 := HS.out.blk.lt
 have x0 := HX.out.cell 0
 have x1 := HX.out.cell 1
 have x3 := HX.out.cell 3
 have x9 := HX.out.lt
 unfold zea at c9
 have HPU := Hq (fun W' (hw : Below W.heap.size W W') => zhr B c lb cl m q p lo st ⟨kd, a⟩ lq sq W' (HS.out.below hw) hl)
 unfold vV at HPU
 have HSC := Hq (fun W' (hw : Below W.heap.size W W') => (show W'.cell? ⟨w.heap.size, 1, none⟩ = some (.int .i64 a) /\ W'.cell? ⟨w.heap.size, 3, none⟩ = some (.string ⟨⟨ty⟩⟩) from ⟨(HX.out.below hw).cell 1, (HX.out.below hw).cell 3⟩))
 have HCK := Hq (fun (W' W4 : World) (hw : Below W.heap.size W W') (hk : KbR c lb (hsV st sq) W' W4) => (show W4.cell? ⟨w.heap.size, 1, none⟩ = some (.int .i64 a) /\ W4.cell? ⟨w.heap.size, 3, none⟩ = some (.string ⟨⟨ty⟩⟩) from by
   obtain ⟨n1, n2, n3⟩ := (HS.out.below hw).apart (HX.out.below hw) (by decide) (by decide)
   have hb := (hk.block _ (HX.out.below hw).lt n1 n2 n3).trans (HX.out.below hw)
   have hb' : Blk W4 w.heap.size 40 _ := hb
   exact ⟨hb'.cell 1, hb'.cell 3⟩))
 clear h hbW hKd
 go_enter Tryz.func96, Tryz.ntmps96
 go_upto_region 1 with fail
 rw [<- hW]
 clear hW
 go_upto_region 4 with fail
 go_region_held3 (fun W' => W'.cell? ⟨w.heap.size, 1, none⟩ = some (.int .i64 a) /\ W'.cell? ⟨w.heap.size, 3, none⟩ = some (.string ⟨⟨ty⟩⟩))
   (first | exact HSC.out _ (Below.refl _ _) | exact HSC.out _ (Below.refl _ _).drew | exact hs4)
   ((first
   | (go_at_call 137
      refine (HKD.out _).mono ?_
      rintro e wz ⟨rfl, rfl⟩)
   | (go_at_call 136
      refine (HPU.out _ (by first | exact Below.refl _ _ | exact (Below.refl _ _).drew)).mono ?_
      rintro e w4 ⟨rfl, sq', hc4, hk4, hv4⟩
      have hs4 := HCK.out _ w4 (by first | exact Below.refl _ _ | exact (Below.refl _ _).drew) hk4)))
 all_goals
   have HC4 := Hq hc4
   have HK4 := Hq (show KbR c lb (hsV st sq) w w4 from (KbR.of_below HBW.out).trans ((KbR.of_below (Below.refl _ _).drew).trans hk4 (VUp.refl _ _)) (VUp.refl _ _))
   have HV4 := Hq (show VUp w (hsV st sq) (hsV (st ++ [⟨kd, a⟩]) sq') from by
     rcases hv4 with h | h
     . exact Or.inl h
     . exact Or.inr (fun k hk => Nat.le_trans HBW.out.size (h k hk)))
   clear hc4 hk4 hv4 hs4 c9 x0 x1 x3
   go_wp2_with fail
   go_ret
   exact ⟨rfl, sq', HC4.out, HK4.out, HV4.out⟩
theorem z08 (B c lb : Nat) (cl : Nm) (m : zo) (q : zaf) (pc : Int) (lo st : List zbz) (x : zbz) (ib : Int) (cn nm : Nm) (lq sq : HA) (w : World) (h : za0 w B c lb cl m q pc lo (st ++ [x]) lq sq) (hl : st.length <= 900) (kd r : Int) (ty : Nm) (hOf : ∀ W, Calls Tryz.prog 36 #[.string ⟨⟨ty⟩⟩, .int .i64 12, .int .i64 x.n, .int .i64 0] W fun e w' => e = .returned (.tuple #[.int .i64 r, .bool true]) /\ W = w') (hKd : ∀ W, Calls Tryz.prog 137 #[.string ⟨⟨ty⟩⟩] W fun e w' => e = .returned (.int .i64 kd) /\ W = w') :
   Calls Tryz.prog 138 #[.pointer (some ⟨c, 0, none⟩), .agg #[.int .i64 9, .int .i64 12, .int .i64 ib, .string ⟨⟨ty⟩⟩, .string ⟨⟨cn⟩⟩, .string ⟨⟨nm⟩⟩]] w fun e w' => e = .returned (.tuple #[]) /\ ∃ sq', za0 w' B c lb cl m q pc lo (st ++ [⟨kd, r⟩]) lq sq' /\ KbR c lb (hsV (st ++ [x]) sq) w w' /\ VUp w (hsV (st ++ [x]) sq) (hsV (st ++ [⟨kd, r⟩]) sq') := by
 have hfd : ∀ (a b : Int) (W : World), (Instr.field 54 (.agg #[.int .i64 a, .int .i64 b]) 1).run Tryz.prog W = .ok (.int .i64 b) W := fun _ _ _ => by kernel_rfl
 obtain ⟨w3, hW⟩ : ∃ W, W = (w.alloc (.cells #[.int .i64 9, .int .i64 12, .int .i64 ib, .string ⟨⟨ty⟩⟩, .string ⟨⟨cn⟩⟩, .string ⟨⟨nm⟩⟩] 40)).alloc (.cells #[.int .i64 0, .int .i64 0] 54) := ⟨_, rfl⟩
 have hbW : Below w.heap.size w w3 := by rw [hW]; exact ze (ze (Below.refl _ _) _) _
 have HX3 := Hq (show Blk w3 w.heap.size 40 #[.int .i64 9, .int .i64 12, .int .i64 ib, .string ⟨⟨ty⟩⟩, .string ⟨⟨cn⟩⟩, .string ⟨⟨nm⟩⟩] by rw [hW]; exact (zg _ _ _ _ rfl).alloc _)
 have HV3 := Hq (show Blk w3 (w.heap.size + 1) 54 #[.int .i64 0, .int .i64 0] by rw [hW]; exact zg _ _ _ _ (by simp))
 have HC3 := Hq (h.below hbW)
 have hcw : c < w.heap.size := h.blk.lt
 have x1 := HX3.out.cell 1
 have x9 := HX3.out.lt
 have HK3 := Hq (show KbR c lb (hsV (st ++ [x]) sq) w w3 from KbR.of_below hbW)
 have HPO := Hq (fun W' (hw : Below w3.heap.size w3 W') => zhe B c lb cl m q pc lo st x lq sq W' (HC3.out.below hw) (by omega))
 have HSC := Hq (fun W' (hw : Below w3.heap.size w3 W') => (show W'.cell? ⟨w.heap.size, 1, none⟩ = some (.int .i64 12) /\ W'.cell? ⟨w.heap.size, 3, none⟩ = some (.string ⟨⟨ty⟩⟩) /\ W'.cell? ⟨w.heap.size + 1, 1, none⟩ = some (.int .i64 0) from ⟨(HX3.out.below hw).cell 1, (HX3.out.below hw).cell 3, (HV3.out.below hw).cell 1⟩))
 have HSG := Hq (fun (W' W4 : World) (hw : Below w3.heap.size w3 W') (hg : W'.grownBy W4 (some c)) => (show W4.cell? ⟨w.heap.size, 1, none⟩ = some (.int .i64 12) /\ W4.cell? ⟨w.heap.size, 3, none⟩ = some (.string ⟨⟨ty⟩⟩) /\ W4.cell? ⟨w.heap.size + 1, 1, none⟩ = some (.int .i64 0) from
   have hx := zac hg (HX3.out.below hw) (by omega)
   have hv := zac hg (HV3.out.below hw) (by omega)
   ⟨hx.cell 1, hx.cell 3, hv.cell 1⟩))
 have HOF := Hq hOf
 have HKD := Hq hKd
 have HGK := Hq (fun (W' W4 : World) (hw : Below w3.heap.size w3 W') (hg : W'.grownBy W4 (some c)) => show KbR c lb (hsV (st ++ [x]) sq) w W4 /\ w.heap.size < W4.heap.size from
   ⟨HK3.out.trans ((KbR.of_below hw).trans ⟨hg.os, hg.tape, hg.output, hg.size, fun k hk n1 _ _ => hg.block k hk (by intro e; simp at e; exact n1 e)⟩ (VUp.refl _ _)) (VUp.refl _ _), by have := HX3.out.lt; have := hw.size; have := hg.size; omega⟩)
 unfold vV at HPO
 clear h hbW hOf hKd
 go_enter Tryz.func138, Tryz.ntmps138
 go_upto_region 2 with fail
 rw [<- hW]
 clear hW
 go_upto_region 4 with fail
 clear x1
 go_region_held3 (fun W' => W'.cell? ⟨w.heap.size, 1, none⟩ = some (.int .i64 12) /\ W'.cell? ⟨w.heap.size, 3, none⟩ = some (.string ⟨⟨ty⟩⟩) /\ W'.cell? ⟨w.heap.size + 1, 1, none⟩ = some (.int .i64 0))
   (first | exact HSC.out _ (Below.refl _ _) | exact HSC.out _ (Below.refl _ _).drew | exact hs4)
   ((first
   | (go_at_call 94
      refine (HPO.out _ (by first | exact Below.refl _ _ | exact (Below.refl _ _).drew)).mono ?_
      rintro e w4 ⟨rfl, hc4, hg4⟩
      have hs4 := HSG.out _ w4 (by first | exact Below.refl _ _ | exact (Below.refl _ _).drew) hg4
      have hk4 := HGK.out _ w4 (by first | exact Below.refl _ _ | exact (Below.refl _ _).drew) hg4)
   | (go_at_call 36
      refine (HOF.out _).mono ?_
      rintro e wz ⟨rfl, rfl⟩)))
 all_goals
   have HC4 := Hq hc4
   have HK4 := Hq hk4
   have x3 := hs4.2.1
   have x9 := hk4.2
   clear hc4 hg4 hk4 hs4
   have HPU := Hq (zhr B c lb cl m q pc lo st ⟨kd, r⟩ lq sq w4 HC4.out (by omega))
   unfold vV at HPU
   go_wp2_with fail
   refine (zng _).mono ?_
   rintro e w5 ⟨rfl, rfl⟩
   go_wp2_with fail
   refine (HKD.out _).mono ?_
   rintro e wz ⟨rfl, rfl⟩
   go_wp2_with fail
   refine HPU.out.mono ?_
   rintro e w6 ⟨rfl, sq', hc6, hk6, hv6⟩
   have HC6 := Hq hc6
   have HK6 := Hq (HK4.out.1.trans (v1 := hsV st sq) hk6 (Or.inl zmj))
   have HV6 := Hq (show VUp w (hsV (st ++ [x]) sq) (hsV (st ++ [⟨kd, r⟩]) sq') from VUp.trans (v1 := hsV st sq) (Or.inl zmj) hv6 HK4.out.1.size)
   clear hc6 hk6 hv6
   go_wp2_with fail
   go_end0
   exact ⟨rfl, sq', HC6.out, HK6.out, HV6.out⟩
theorem zyh (B c lb : Nat) (cl : Nm) (m : zo) (q : zaf) (p : Nat) (lo st : List zbz) (x : zbz) (ib : Int) (cn nm : Nm) (lq sq : HA) (w : World) (h : za0 w B c lb cl m q p lo (st ++ [x]) lq sq) (hp : p <= 1000) (hl : st.length <= 900) (kd r : Int) (ty : Nm) (hOf : ∀ W, Calls Tryz.prog 36 #[.string ⟨⟨ty⟩⟩, .int .i64 12, .int .i64 x.n, .int .i64 0] W fun e w' => e = .returned (.tuple #[.int .i64 r, .bool true]) /\ W = w') (hKd : ∀ W, Calls Tryz.prog 137 #[.string ⟨⟨ty⟩⟩] W fun e w' => e = .returned (.int .i64 kd) /\ W = w') :
   Calls Tryz.prog 96 #[.pointer (some ⟨c, 0, none⟩), .agg #[.int .i64 9, .int .i64 12, .int .i64 ib, .string ⟨⟨ty⟩⟩, .string ⟨⟨cn⟩⟩, .string ⟨⟨nm⟩⟩]] w (z6s B c lb cl m q p lo (st ++ [x]) lo (st ++ [⟨kd, r⟩]) lq sq ((p : Int) + 1) w) := by
 obtain ⟨W, hW⟩ : ∃ W, W = w.alloc (.cells #[.int .i64 9, .int .i64 12, .int .i64 ib, .string ⟨⟨ty⟩⟩, .string ⟨⟨cn⟩⟩, .string ⟨⟨nm⟩⟩] 40) := ⟨_, rfl⟩
 have hbW : Below w.heap.size w W := by rw [hW]; exact ze (Below.refl _ _) _
 have HX := Hq (show Blk W w.heap.size 40 #[.int .i64 9, .int .i64 12, .int .i64 ib, .string ⟨⟨ty⟩⟩, .string ⟨⟨cn⟩⟩, .string ⟨⟨nm⟩⟩] by rw [hW]; exact zg _ _ _ _ rfl)
 have HS := Hq (h.below hbW)
 have HBW := Hq hbW
 have c9 := HS.out.blk.cell 9
 have c12 := HS.out.blk.lt
 have x0 := HX.out.cell 0
 have x1 := HX.out.cell 1
 have x2 := HX.out.cell 2
 have x3 := HX.out.cell 3
 have x4 := HX.out.cell 4
 have x5 := HX.out.cell 5
 have x9 := HX.out.lt
 unfold zea at c9
 have HCA := Hq (z08 B c lb cl m q p lo st x ib cn nm lq sq W HS.out hl kd r ty hOf hKd)
 clear h hbW hOf hKd
 go_enter Tryz.func96, Tryz.ntmps96
 go_upto_region 1 with fail
 rw [<- hW]
 clear hW
 go_wp2_with fail
 refine HCA.out.mono ?_
 rintro e w4 ⟨rfl, sq', hc4, hk4, hv4⟩
 have HC4 := Hq hc4
 have HK4 := Hq ((KbR.of_below HBW.out).trans hk4 (VUp.refl _ _))
 have HV4 := Hq (show VUp w (hsV (st ++ [x]) sq) (hsV (st ++ [⟨kd, r⟩]) sq') from by
   rcases hv4 with h | h
   . exact Or.inl h
   . exact Or.inr (fun k hk => Nat.le_trans HBW.out.size (h k hk)))
 clear hc4 hk4 hv4 c9 x0 x1 x2 x3 x4 x5
 go_wp2_with fail
 go_ret
 exact ⟨rfl, sq', HC4.out, HK4.out, HV4.out⟩
end Go.Proofs.YtbnkckjdgpiggaaGreatDoor
