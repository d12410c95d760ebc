import Derived.Test.YtfimajijegohmaaGreatDoorRc
namespace Go.Proofs.YtfimajijegohmaaGreatDoor
set_option maxRecDepth 100000
set_option maxHeartbeats 8000000
set_option linter.unusedVariables false
set_option linter.unusedSimpArgs false
open Go.RowKit Go.Shelf Go.Lib
def faultP : List PanicEntry := [{ v := .iface 225 (.agg #[]), recovered := false }]
theorem rneed_true (w : World) : Calls Tryz.prog 151 #[.bool true] w fun e w' => e = .returned (.tuple #[]) ∧ w' = w := by
 go_enter Tryz.func151, Tryz.ntmps151
 go_wp2_with fail
 go_end0
 exact ⟨rfl, rfl⟩
theorem rkind_int (w : World) : Calls Tryz.prog 236 #[.string ⟨⟨[73]⟩⟩] w fun e w' => e = .returned (.int .i64 1) ∧ w = w' := by
 go_enter Tryz.func236, Tryz.ntmps236
 go_wp2_with fail
 go_ret
 exact ⟨rfl, rfl⟩
def Is32 (a : Int) : Prop := -2147483648 ≤ a ∧ a ≤ 2147483647
def quo32 (a b : Int) : Int := wrap32 (a.tdiv b)
open Go.Sort
theorem heaped_2 (K c : Nat) (ia ib : Int) (ty cl nm : Nm) (w : World) :
   Calls Tryz.prog 153 #[.pointer (some ⟨K, 0, none⟩), .pointer (some ⟨c, 0, none⟩), .agg #[.int .i64 2, .int .i64 ia, .int .i64 ib, .string ⟨⟨ty⟩⟩, .string ⟨⟨cl⟩⟩, .string ⟨⟨nm⟩⟩]] w fun e w' => e = .returned (.tuple #[]) ∧ Below w.heap.size w w' := by
 have HB := Hd (fun o => bl_alloc (Below.refl w.heap.size w) o)
 go_enter Tryz.func153, Tryz.ntmps153
 go_wp2_with fail
 go_end0
 exact ⟨rfl, HB.out _⟩
theorem heaped_9 (K c : Nat) (ia ib : Int) (ty cl nm : Nm) (w : World) :
   Calls Tryz.prog 153 #[.pointer (some ⟨K, 0, none⟩), .pointer (some ⟨c, 0, none⟩), .agg #[.int .i64 9, .int .i64 ia, .int .i64 ib, .string ⟨⟨ty⟩⟩, .string ⟨⟨cl⟩⟩, .string ⟨⟨nm⟩⟩]] w fun e w' => e = .returned (.tuple #[]) ∧ Below w.heap.size w w' := by
 have HB := Hd (fun o => bl_alloc (Below.refl w.heap.size w) o)
 go_enter Tryz.func153, Tryz.ntmps153
 go_wp2_with fail
 go_end0
 exact ⟨rfl, HB.out _⟩
theorem plain_push (B c lb : Nat) (cl : Nm) (m : MethR) (q : MAddr) (p : Nat) (a ib : Int) (lo st : List ValR) (cn nm : Nm) (lq sq : HA) (w : World) (h : CallAt w B c lb cl m q p lo st lq sq) (hp : p ≤ 1000) (hl : st.length ≤ 1000) :
   Calls Tryz.prog 152 #[.pointer (some ⟨c, 0, none⟩), .agg #[.int .i64 2, .int .i64 a, .int .i64 ib, .string ⟨⟨[73]⟩⟩, .string ⟨⟨cn⟩⟩, .string ⟨⟨nm⟩⟩]] w (PRes B c lb cl m q p lo st lo (st ++ [⟨1, a⟩]) lq sq ((p : Int) + 1) w) := by
 obtain ⟨W, hW⟩ : ∃ W, W = w.alloc (.cells #[.int .i64 2, .int .i64 a, .int .i64 ib, .string ⟨⟨[73]⟩⟩, .string ⟨⟨cn⟩⟩, .string ⟨⟨nm⟩⟩] 35) := ⟨_, rfl⟩
 have hbW : Below w.heap.size w W := by rw [hW]; exact bl_alloc (Below.refl _ _) _
 have HX := Hd (show Blk W w.heap.size 35 #[.int .i64 2, .int .i64 a, .int .i64 ib, .string ⟨⟨[73]⟩⟩, .string ⟨⟨cn⟩⟩, .string ⟨⟨nm⟩⟩] by rw [hW]; exact blk_new _ _ _ _ rfl)
 have HS := Hd (h.below hbW)
 have HBW := Hd hbW
 have c9 := HS.out.blk.cell 9
 have c12 := HS.out.blk.lt
 have x0 := HX.out.cell 0
 have x1 := HX.out.cell 1
 have x3 := HX.out.cell 3
 have x9 := HX.out.lt
 unfold rcArr at c9
 have HPU := Hd (fun W' (hw : Below W.heap.size W W') => rput_calls B c lb cl m q p lo st ⟨1, a⟩ lq sq W' (HS.out.below hw) hl)
 unfold vV at HPU
 have HSC := Hd (fun W' (hw : Below W.heap.size W W') => (show W'.cell? ⟨w.heap.size, 1, none⟩ = some (.int .i64 a) ∧ W'.cell? ⟨w.heap.size, 3, none⟩ = some (.string ⟨⟨[73]⟩⟩) from ⟨(HX.out.below hw).cell 1, (HX.out.below hw).cell 3⟩))
 have HCK := Hd (fun (W' W4 : World) (hw : Below W.heap.size W W') (hk : KbR c lb (hsV st sq) W' W4) => (show W4.cell? ⟨w.heap.size, 1, none⟩ = some (.int .i64 a) ∧ W4.cell? ⟨w.heap.size, 3, none⟩ = some (.string ⟨⟨[73]⟩⟩) from by
   obtain ⟨n1, n2, n3⟩ := (HS.out.below hw).apart (HX.out.below hw) (by decide) (by decide)
   have hb := (hk.block _ (HX.out.below hw).lt n1 n2 n3).trans (HX.out.below hw)
   have hb' : Blk W4 w.heap.size 35 _ := hb
   exact ⟨hb'.cell 1, hb'.cell 3⟩))
 clear h hbW
 go_enter Tryz.func152, Tryz.ntmps152
 go_upto_region 1 with fail
 rw [← hW]
 clear hW
 go_upto_region 4 with fail
 go_region_held3 (fun W' => W'.cell? ⟨w.heap.size, 1, none⟩ = some (.int .i64 a) ∧ W'.cell? ⟨w.heap.size, 3, none⟩ = some (.string ⟨⟨[73]⟩⟩))
   (first | exact HSC.out _ (Below.refl _ _) | exact HSC.out _ (Below.refl _ _).drew | exact hs4)
   ((first
   | (go_at_call 236
      refine (rkind_int _).mono ?_
      rintro e wz ⟨rfl, rfl⟩)
   | (go_at_call 235
      refine (HPU.out _ (by first | exact Below.refl _ _ | exact (Below.refl _ _).drew)).mono ?_
      rintro e w4 ⟨rfl, sq', hc4, hk4, hv4⟩
      have hs4 := HCK.out _ w4 (by first | exact Below.refl _ _ | exact (Below.refl _ _).drew) hk4)))
 all_goals
   have HC4 := Hd hc4
   have HK4 := Hd (show KbR c lb (hsV st sq) w w4 from (KbR.of_below HBW.out).trans ((KbR.of_below (Below.refl _ _).drew).trans hk4 (VUp.refl _ _)) (VUp.refl _ _))
   have HV4 := Hd (show VUp w (hsV st sq) (hsV (st ++ [⟨1, a⟩]) sq') from by
     rcases hv4 with h | h
     · exact Or.inl h
     · exact Or.inr (fun k hk => Nat.le_trans HBW.out.size (h k hk)))
   clear hc4 hk4 hv4 hs4 c9 x0 x1 x3
   go_wp2_with fail
   go_ret
   exact ⟨rfl, sq', HC4.out, HK4.out, HV4.out⟩
end Go.Proofs.YtfimajijegohmaaGreatDoor
