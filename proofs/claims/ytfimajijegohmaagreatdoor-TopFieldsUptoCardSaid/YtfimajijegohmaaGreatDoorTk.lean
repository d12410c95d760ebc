import Derived.Test.YtfimajijegohmaaGreatDoorTj
namespace Go.Proofs.YtfimajijegohmaaGreatDoor
set_option maxRecDepth 100000
set_option maxHeartbeats 8000000
set_option linter.unusedVariables false
set_option linter.unusedSimpArgs false
open Go.RowKit
def adI : List InsR := [⟨4, 0, 0, [], [], []⟩, ⟨4, 1, 0, [], [], []⟩, ⟨9, 1, 0, [73], [], []⟩, ⟨27, 0, 0, [], [], []⟩]
def adM : MethR := ⟨[97, 100, 100], [40, 73, 73, 41, 73], true, false, false, 2, adI, []⟩
theorem ad_ty : MethodOk adM.ty [[73], [73]] [73] := ⟨rfl, by intro x hx; simp at hx; subst hx; exact num_type rfl, by simp, Or.inr (num_type rfl)⟩
theorem ad_err : methErr adM [] = 0 := by
 have hty := ad_ty
 have hm : mtyErr adM.ty = 0 := by unfold mtyErr; rw [if_pos ⟨_, _, hty⟩]
 have ha : argsOf adM = 2 := by unfold argsOf; rw [if_neg (by simp [hm]), if_pos (show adM.stat = true from rfl), argsN_of hty]; rfl
 have hf : FlowOk adM.code := by
   refine ⟨by simp [adM, adI], fun i hi => ?_, fun i hi => ?_, rfl⟩
   · simp only [adM, adI, List.mem_cons, List.not_mem_nil, or_false] at hi
     rcases hi with rfl | rfl | rfl | rfl <;> simp [insErr, needL, rangedB, typedB, jumpsB, numB]
   · simp only [adM, adI, List.mem_cons, List.not_mem_nil, or_false] at hi
     rcases hi with rfl | rfl | rfl | rfl <;> simp [jumpsB]
 unfold methErr
 rw [if_neg (by simp only [adM]; decide), if_neg (by simp [hm]), if_neg (by simp), if_neg (by simp [adM])]
 unfold bodyErr
 rw [if_neg (by simp [adM]), if_neg (by rw [(flowErr_zero _).2 hf]; simp), if_neg (by rw [ha]; simp [adM]), if_neg (by simp [adM, adI, locB])]
 simp [handErr, adM, firstNZ]
theorem ad_mok : MOk adM := methErr_ok ad_err rfl
theorem ad_load {L : List ClassR} {c : Nm} {a : Nat} {A : List Nm} (ha : a < 2) (h : A.length < 8) : afterF L c [73] ⟨4, (a : Int), 0, [], [], []⟩ ⟨[[73], [73]], A⟩ = some ⟨[[73], [73]], A ++ [[73]]⟩ := by
 have : a = 0 ∨ a = 1 := by omega
 unfold afterF plainF heapF
 rcases this with rfl | rfl <;> simp [putF, h]
theorem ad_math {L : List ClassR} {c : Nm} {lo : List Nm} : afterF L c [73] ⟨9, 1, 0, [73], [], []⟩ ⟨lo, [[73], [73]]⟩ = some ⟨lo, [[73]]⟩ := by
 have h1 := take_num (L := L) (t := [73]) (f := ⟨lo, [[73], [73]]⟩) (A := [[73]]) rfl rfl
 have h2 := take_num (L := L) (t := [73]) (f := ⟨lo, [[73]]⟩) (A := []) rfl rfl
 unfold afterF plainF heapF mathF
 simp [h1, h2, putO, putF]
theorem ad_give {L : List ClassR} {c : Nm} {lo : List Nm} : afterF L c [73] ⟨27, 0, 0, [], [], []⟩ ⟨lo, [[73]]⟩ = some ⟨lo, []⟩ := by
 have h2 := take_num (L := L) (t := [73]) (f := ⟨lo, [[73]]⟩) (A := []) rfl rfl
 unfold afterF plainF heapF
 simp [h2]
theorem ad_look : lookedF (wl [oneC adM]) [65] adM ≠ none := by
 obtain ⟨ha, hg⟩ := args_of ad_ty
 have hf : firstF [65] adM = ⟨[[73], [73]], []⟩ := by unfold firstF givenL; rw [ha]; rfl
 have hk2 := (kd_num2 (wl [oneC adM]) (t := [73]) rfl).1
 have hks : kindsErr (wl [oneC adM]) (firstF [65] adM).loc = 0 := by
   rw [hf]
   exact kindsErr_zero.2 (fun x hx => by simp at hx; subst hx; exact hk2)
 unfold lookedF
 rw [if_neg (by rw [hks]; simp), if_neg (by rw [hg]; rintro ⟨_, e⟩; exact e hk2)]
 have hG := one_good ad_err
 have hM := ad_mok
 have H := lk_step (c := [65]) hG hM
 have hF : KOk (wl [oneC adM]) (firstF [65] adM) := first_kok hM hks
 rw [hf] at hF ⊢
 have hn : 0 < adM.code.length := by simp [adM, adI]
 obtain ⟨e1, o1, _⟩ := res_some H (start_ok hF hn) (z := 0) (r := []) rfl
   (lk_next (m := adM) (z := 0) (f := ⟨[[73], [73]], []⟩) (out := ⟨[[73], [73]], [[73]]⟩) (x := ⟨4, 0, 0, [], [], []⟩) (by simp [startF, updF]) (by simp [adM]) rfl (by rw [hg]; exact ad_load (a := 0) (A := []) (by omega) (by simp)) rfl (by simp [startF, updF]))
 obtain ⟨e2, o2, _⟩ := res_some H o1 (z := 1) (r := []) rfl
   (lk_next (m := adM) (z := 1) (f := ⟨[[73], [73]], [[73]]⟩) (out := ⟨[[73], [73]], [[73], [73]]⟩) (x := ⟨4, 1, 0, [], [], []⟩) (by simp [updF]) (by simp [adM]) rfl (by rw [hg]; exact ad_load (a := 1) (A := [[73]]) (by omega) (by simp)) rfl (by simp [startF, updF]))
 obtain ⟨e3, o3, _⟩ := res_some H o2 (z := 2) (r := []) rfl
   (lk_next (m := adM) (z := 2) (f := ⟨[[73], [73]], [[73], [73]]⟩) (out := ⟨[[73], [73]], [[73]]⟩) (x := ⟨9, 1, 0, [73], [], []⟩) (by simp [updF]) (by simp [adM]) rfl (by rw [hg]; exact ad_math) rfl (by simp [startF, updF]))
 obtain ⟨e4, _, _⟩ := res_some H o3 (z := 3) (r := []) rfl
   (lk_end (m := adM) (z := 3) (f := ⟨[[73], [73]], [[73]]⟩) (out := ⟨[[73], [73]], []⟩) (x := ⟨27, 0, 0, [], [], []⟩) (by simp [updF]) (by simp [adM]) rfl (by rw [hg]; exact ad_give) rfl)
 rw [e1, e2, e3, e4, res_nil rfl]
 simp
theorem ad_cls : ClsOk [oneC adM] := by
 intro c hc
 rw [List.mem_singleton.1 hc]
 refine ⟨⟨by simp [oneC], by simp [oneC], by simp [oneC], fun f hf => by simp [oneC] at hf, fun m hm => ?_⟩, ?_⟩
 · have : m = adM := by simpa [oneC] using hm
   subst this
   refine ⟨by simp [adM], by simp [adM, adI], by simp [adM], fun x hx => ?_⟩
   simp only [adM, adI, List.mem_cons, List.not_mem_nil, or_false] at hx
   rcases hx with rfl | rfl | rfl | rfl <;> simp
 · refine ⟨by simp [oneC], by simp [oneC, objN], fun f hf => by simp [oneC] at hf, fun f hf => by simp [oneC] at hf, fun m hm => ?_⟩
   have : m = adM := by simpa [oneC] using hm
   subst this
   refine ⟨by unfold I64; simp [adM], fun x hx => ?_, fun x hx => by simp [adM] at hx, by simp [adM], by simp [adM]⟩
   simp only [adM, adI, List.mem_cons, List.not_mem_nil, or_false] at hx
   rcases hx with rfl | rfl | rfl | rfl <;> (unfold InsI I64; simp)
open Go.Shelf Go.Lib Go.Sort
theorem ad_of (W : World) : Calls Tryz.prog 85 #[.string ⟨⟨[73]⟩⟩, .int .i64 1, .int .i64 2, .int .i64 3] W fun e w' => e = .returned (.tuple #[.int .i64 5, .bool true]) ∧ W = w' := by
 have h := of_add 2 3 (by unfold wrap32; omega) (by unfold wrap32; omega) W
 rwa [show wrap32 (2 + 3) = 5 by unfold wrap32; omega] at h
theorem ad_run (W0 w : World) (K c lb cs cc b : Nat) (cl : Nm) (q : MAddr) (lq : HA) (hM : MacAt W0 w K c lb cs cc b (.slice none 0 0) 0 cl adM q 0 [⟨1, 2⟩, ⟨1, 3⟩] [] lq (none, 0)) (hC : CodeAt W0 q.ca q.cc adM.code) :
   Calls Tryz.prog 38 #[.pointer (some ⟨K, 0, none⟩), .int .i64 10] w fun e w' => e = .returned .nilIface ∧ (∃ hv cv, Blk w' K 104 (macArr b hv cv 1 5 [] 4 true)) ∧ KeepT w w' ∧ Below W0.heap.size W0 w' := by
 refine trace_all (W0 := W0) (k := ⟨K, c, lb, cs, cc, b, cl, adM, q, lq⟩) 4 (fun i => i) (fun _ => [⟨1, 2⟩, ⟨1, 3⟩]) (fun i => ([[], [⟨1, 2⟩], [⟨1, 2⟩, ⟨1, 3⟩], [⟨1, 5⟩]] : List (List ValR)).getD i []) (fun _ => []) 10 1 5 [] w (by omega) (by omega) (by omega) ⟨_, _, [], hM, HpAt.start _ _ _ _⟩ (fun i hi W h => ?_) (fun W h => ?_)
 · obtain rfl | rfl | rfl : i = 0 ∨ i = 1 ∨ i = 2 := by omega
   · exact st_plain2 (k := ⟨K, c, lb, cs, cc, b, cl, adM, q, lq⟩) (p := 0) (p' := 1) (lo := [⟨1, 2⟩, ⟨1, 3⟩]) (lo' := [⟨1, 2⟩, ⟨1, 3⟩]) (st := []) (st' := [⟨1, 2⟩]) ⟨4, 0, 0, [], [], []⟩ hC rfl (by simp [adM, adI]) rfl rfl rfl rfl rfl
       (fun W' sq hh => plain_load _ _ _ _ _ _ 0 0 0 [⟨1, 2⟩, ⟨1, 3⟩] [] ⟨1, 2⟩ [] [] [] lq sq W' hh (by omega) (by simp) (by simp) rfl) (fun W' => heaped_4 K c 0 0 [] [] [] W') W h
   · exact st_plain2 (k := ⟨K, c, lb, cs, cc, b, cl, adM, q, lq⟩) (p := 1) (p' := 2) (lo := [⟨1, 2⟩, ⟨1, 3⟩]) (lo' := [⟨1, 2⟩, ⟨1, 3⟩]) (st := [⟨1, 2⟩]) (st' := [⟨1, 2⟩, ⟨1, 3⟩]) ⟨4, 1, 0, [], [], []⟩ hC rfl (by simp [adM, adI]) rfl rfl rfl rfl rfl
       (fun W' sq hh => plain_load _ _ _ _ _ _ 1 1 0 [⟨1, 2⟩, ⟨1, 3⟩] [⟨1, 2⟩] ⟨1, 3⟩ [] [] [] lq sq W' hh (by omega) (by simp) (by simp) rfl) (fun W' => heaped_4 K c 1 0 [] [] [] W') W h
   · exact st_plain2 (k := ⟨K, c, lb, cs, cc, b, cl, adM, q, lq⟩) (p := 2) (p' := 3) (lo := [⟨1, 2⟩, ⟨1, 3⟩]) (lo' := [⟨1, 2⟩, ⟨1, 3⟩]) (st := [] ++ [⟨1, 2⟩] ++ [⟨1, 3⟩]) (st' := [] ++ [⟨1, 5⟩]) ⟨9, 1, 0, [73], [], []⟩ hC rfl (by simp [adM, adI]) rfl rfl rfl rfl rfl
       (fun W' sq hh => plain_math _ _ _ _ _ _ 2 [⟨1, 2⟩, ⟨1, 3⟩] [] ⟨1, 2⟩ ⟨1, 3⟩ 0 [] [] lq sq W' hh (by omega) (by simp) 1 1 5 [73] rfl (fun W => ad_of W) (fun W => rkind_int W)) (fun W' => heaped_9 K c 1 0 [73] [] [] W') W h
 · exact st_give2 (k := ⟨K, c, lb, cs, cc, b, cl, adM, q, lq⟩) (p := 3) (v := ⟨1, 5⟩) ⟨27, 0, 0, [], [], []⟩ hC rfl (by simp [adM, adI]) rfl W h
theorem ad_call (gk gm ga : Nat) (q : MAddr) (w : World) (hF : FormsAt w) (hC : ClassesAt w (some ⟨gk, 0, none⟩) 1 [oneC adM] [oneA gm q]) (ha : HasAt w [⟨1, 2⟩, ⟨1, 3⟩] (some ⟨ga, 0, none⟩, 2)) :
   Calls Tryz.prog 12 #[.slice (some ⟨gk, 0, none⟩) 1 1, .string ⟨⟨[65]⟩⟩, .string ⟨⟨[97, 100, 100]⟩⟩, .string ⟨⟨[40, 73, 73, 41, 73]⟩⟩, .slice (some ⟨ga, 0, none⟩) 2 2, .int .i64 10] w fun e w' => e = .returned (.tuple #[toldV 1 5 [] 4, .nilIface]) ∧ Below w.heap.size w w' :=
 rcall_calls [oneC adM] [oneA gm q] (some ⟨gk, 0, none⟩) 1 [65] [⟨1, 2⟩, ⟨1, 3⟩] (some ⟨ga, 0, none⟩, 2) 10 w hC hF ad_cls ha (one_ck (one_good ad_err) ad_look) (by simp)
   (oneC adM, oneA gm q) (one_find _ _) adM [] rfl rfl [[73], [73]] [73] ad_ty (by simp [adM]) rfl (fun j x y hx hy => by
     match j with
     | 0 => simp at hx hy; subst hx hy; exact Or.inl ⟨rfl, rfl, by dsimp only; unfold wrap32; omega⟩
     | 1 => simp at hx hy; subst hx hy; exact Or.inl ⟨rfl, rfl, by dsimp only; unfold wrap32; omega⟩
     | j + 2 => simp at hx)
   (by omega) (by omega) 2 rfl (by omega) (by simp) (Or.inl (by simp)) 1 5 [] 4
   (fun w5 w6 K c' lb cs cc b lq q' _ hW hM hmac => ad_run w5 w6 K c' lb cs cc b [65] q' lq hmac hM.1)
def adW (w : World) : World := (((w.alloc (.cells (adI.map insCells).flatten.toArray 35)).alloc (.cells (mArr adM ⟨some ⟨w.heap.size, 0, none⟩, 4, none, 0⟩) 39)).alloc (.cells (mArr adM ⟨some ⟨w.heap.size, 0, none⟩, 4, none, 0⟩) 39)).alloc (.cells (classCells (oneC adM) (oneA (w.heap.size + 1 + 1) ⟨some ⟨w.heap.size, 0, none⟩, 4, none, 0⟩)).toArray 31)
theorem adder_calls (w : World) : Calls Tryz.prog 29 #[] w fun e w' => e = .returned (.slice (some ⟨w.heap.size + 1 + 1 + 1, 0, none⟩) 1 1) ∧ w' = adW w := by
 go_enter Tryz.func29, Tryz.ntmps29
 go_wp2_with fail
 go_ret
 exact ⟨rfl, rfl⟩
theorem adW_at (w : World) : Below w.heap.size w (adW w) ∧ ClassesAt (adW w) (some ⟨w.heap.size + 1 + 1 + 1, 0, none⟩) 1 [oneC adM] [oneA (w.heap.size + 1 + 1) ⟨some ⟨w.heap.size, 0, none⟩, 4, none, 0⟩] := by
 refine ⟨bl_alloc (bl_alloc (bl_alloc (bl_alloc (Below.refl _ _) _) _) _) _, ?_⟩
 have hI : Blk (adW w) w.heap.size 35 (adI.map insCells).flatten.toArray := (((blk_new _ _ _ _ rfl).alloc _).alloc _).alloc _
 refine one_at (blk_new _ _ _ _ (by simp)) ((blk_new _ _ _ _ (by simp)).alloc _) ⟨rows_of_blk hI (Nat.le_refl _) (by intro c hc; obtain ⟨x, _, rfl⟩ := List.mem_map.1 hc; rfl), ⟨Nat.le_refl _, Or.inl rfl⟩⟩
theorem five_calls (w : World) (hF : FormsAt w) : Calls Tryz.prog 7 #[] w fun e w' => e = .returned (.bool true) ∧ Below w.heap.size w w' := by
 obtain ⟨hb1, hc1⟩ := adW_at w
 have HB1 := Hd hb1
 obtain ⟨w2, hw2⟩ : ∃ w2, w2 = (adW w).alloc (.cells #[.int .i64 1, .int .i64 2, .int .i64 1, .int .i64 3] 42) := ⟨_, rfl⟩
 have hb2 : Below (adW w).heap.size (adW w) w2 := by rw [hw2]; exact bl_alloc (Below.refl _ _) _
 have hV : Blk w2 (adW w).heap.size 42 #[.int .i64 1, .int .i64 2, .int .i64 1, .int .i64 3] := by rw [hw2]; exact blk_new _ _ _ _ rfl
 have HCL := Hd (ad_call (w.heap.size + 1 + 1 + 1) (w.heap.size + 1 + 1) (adW w).heap.size ⟨some ⟨w.heap.size, 0, none⟩, 4, none, 0⟩ w2 (hF.below (bl_trans hb1 hb2)) (hc1.below hb2)
   (rows_of_blk (L := [vCells ⟨1, 2⟩, vCells ⟨1, 3⟩]) (by simpa [vCells] using hV) (by simp) (by intro c hc; simp at hc; rcases hc with rfl | rfl <;> rfl)))
 have HB2 := Hd (bl_trans hb1 hb2)
 clear hF hb1 hc1 hb2 hV
 go_enter Tryz.func7, Tryz.ntmps7
 go_wp2_with fail
 refine (adder_calls _).mono ?_
 rintro e w1 ⟨rfl, rfl⟩
 go_wp2_with fail
 rw [← hw2]
 clear hw2
 refine HCL.out.mono ?_
 rintro e w3 ⟨rfl, hb3⟩
 have HB3 := Hd (bl_trans HB2.out hb3)
 clear hb3
 unfold toldV
 go_wp2_with fail
 go_ret
 exact ⟨rfl, bl_alloc HB3.out _⟩
end Go.Proofs.YtfimajijegohmaaGreatDoor
