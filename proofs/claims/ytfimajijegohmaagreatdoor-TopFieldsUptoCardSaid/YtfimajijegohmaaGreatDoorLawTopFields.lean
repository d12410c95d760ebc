import Derived.Test.YtfimajijegohmaaGreatDoorTk
import Derived.Test.YtfimajijegohmaaGreatDoorWr
namespace Go.Proofs.YtfimajijegohmaaGreatDoor
set_option maxRecDepth 100000
set_option maxHeartbeats 8000000
set_option linter.unusedVariables false
set_option linter.unusedSimpArgs false
open Go.RowKit Go.Shelf Go.Lib
theorem main_calls (a : Option Addr) (n cap : Nat) (t : Nm) (w : World) : Calls Tryz.prog 10 #[.slice a n cap, .string ⟨⟨t⟩⟩] w fun e w' => e = .returned (.agg #[.string ⟨⟨mainN⟩⟩, .string ⟨⟨t⟩⟩, .bool true, .bool false, .bool false, .int .i64 8, .slice a n cap, .slice none 0 0]) ∧ Below w.heap.size w w' := by
 have HB := Hd (fun o => bl_alloc (Below.refl w.heap.size w) o)
 have HN := Hd (fun cs => blk_new w w.heap.size 39 cs rfl)
 go_enter Tryz.func10, Tryz.ntmps10
 go_wp2_with fail
 have y := HN.out #[.string ⟨⟨mainN⟩⟩, .string ⟨⟨t⟩⟩, .bool true, .bool false, .bool false, .int .i64 8, .slice a n cap, .slice none 0 0]
 have y0 := y.cell 0
 have y1 := y.cell 1
 have y2 := y.cell 2
 have y3 := y.cell 3
 have y4 := y.cell 4
 have y5 := y.cell 5
 have y6 := y.cell 6
 have y7 := y.cell 7
 exact bodyPost_ret (v := .agg #[.string ⟨⟨mainN⟩⟩, .string ⟨⟨t⟩⟩, .bool true, .bool false, .bool false, .int .i64 8, .slice a n cap, .slice none 0 0]) (by simp [results, Tryz.results10, go_sem, mainN] at y0 y1 y2 y3 y4 y5 y6 y7 ⊢) rfl ⟨rfl, HB.out _⟩
theorem top_good {l : List ClassR} {c x y : Nm} {k : Int} (hgl : Good l) (h : ckErr (l ++ [topC c x y k]) = 0) (hc : c ∈ names l) :
   Good (l ++ [topC c x y k]) ∧ ∃ i j, placeF (wl (l ++ [topC c x y k])) c x = some i ∧ placeF (wl (l ++ [topC c x y k])) c y = some j ∧ placeF (wl l) c x = some i ∧ placeF (wl l) c y = some j ∧
     nameOk c = true ∧ (look (wl (l ++ [topC c x y k])) c).isSome = true ∧ (((typesF (wl (l ++ [topC c x y k])) c).map zeroV).set i ⟨1, k⟩)[j]? = some ⟨1, if i = j then k else 0⟩ := by
 have hr : readErr (l ++ [topC c x y k]) = 0 := by
   unfold ckErr at h
   split at h
   · rename_i h2; exact absurd h h2
   · rename_i h2; simpa using h2
 have hg := (readErr_zero _).1 hr
 have hm : MOk (topM c x y k) := good_mok hg (c := topC c x y k) (by simp) (by simp [topC]) rfl
 have hlk : lookedF (wl (l ++ [topC c x y k])) main9 (topM c x y k) ≠ none := by
   intro hn
   unfold ckErr at h
   rw [if_neg (by simp [hr]), if_pos] at h
   · omega
   · rw [List.any_eq_true]
     refine ⟨topC c x y k, by simp, ?_⟩
     unfold cBad
     rw [List.any_eq_true]
     exact ⟨topM c x y k, by simp [topC], mBad_none rfl hn⟩
 obtain ⟨⟨xa, fa, hfa, hta⟩, xb, fb, hfb, htb⟩ := top_checked hg hm hlk
 obtain ⟨i, si, hi, hsi, _, hti⟩ := placeF_at hfa
 obtain ⟨j, sj, hj, hsj, _, htj⟩ := placeF_at hfb
 have hd := good_new hg
 have hj0 := hgl.join
 obtain ⟨_, _, p1⟩ := place_more (d := topC c x y k) hj0 hd hc x
 obtain ⟨_, _, p2⟩ := place_more (d := topC c x y k) hj0 hd hc y
 refine ⟨hg, i, j, hi, hj, by rw [← p1]; exact hi, by rw [← p2]; exact hj, ?_, ?_, ?_⟩
 · exact good_nameOk hgl hc
 · rw [more_look (fun e => hd (e ▸ hc))]
   exact look_some.2 hc
 · have z1 : zeroV [73] = ⟨1, 0⟩ := by unfold zeroV; rw [if_pos rfl]
   have hil := placeF_lt hi
   have hlen : ((typesF (wl (l ++ [topC c x y k])) c).map zeroV).length = (slotsF (wl (l ++ [topC c x y k])) c).length := by unfold typesF; simp
   rw [List.getElem?_set]
   by_cases e : i = j
   · rw [if_pos e, if_pos (by rw [hlen]; exact hil), if_pos e]
   · rw [if_neg e, if_neg e]
     unfold typesF
     rw [List.getElem?_map, List.getElem?_map, hsj]
     simp [htj, htb, z1]
theorem top_cls {l : List ClassR} {c x y : Nm} {n : Int} (hB : ClsOk l) (hc : c.length ≤ 1000) (hx : x.length ≤ 1048576) (hy : y.length ≤ 1048576) : ClsOk (l ++ [topC c x y (wrap32 n)]) := by
 have hk : I64 (wrap32 n) := by unfold I64 wrap32; omega
 intro d hd
 rcases List.mem_append.1 hd with h | h
 · exact hB d h
 rw [List.mem_singleton.1 h]
 refine ⟨⟨by simp [topC], by simp [topC], by simp [topC], fun f hf => by simp [topC] at hf, fun m hm => ?_⟩, ?_⟩
 · have : m = topM c x y (wrap32 n) := by simpa [topC] using hm
   subst this
   refine ⟨by simp [topM], by simp [topM, topI], by simp [topM], fun z hz => ?_⟩
   simp only [topM, topI, List.mem_cons, List.not_mem_nil, or_false] at hz
   rcases hz with rfl | rfl | rfl | rfl | rfl | rfl | rfl | rfl <;> simp
 · refine ⟨by simp [topC, main9], by simp [topC, objN], fun f hf => by simp [topC] at hf, fun f hf => by simp [topC] at hf, fun m hm => ?_⟩
   have : m = topM c x y (wrap32 n) := by simpa [topC] using hm
   subst this
   refine ⟨by unfold I64; simp [topM], fun z hz => ?_, fun z hz => by simp [topM] at hz, by simp [topM, mainN], by simp [topM]⟩
   simp only [topM, topI, List.mem_cons, List.not_mem_nil, or_false] at hz
   have h0 : I64 0 := by unfold I64; omega
   rcases hz with rfl | rfl | rfl | rfl | rfl | rfl | rfl | rfl <;> first | exact ⟨h0, h0⟩ | exact ⟨hk, h0⟩
theorem top_find {l : List ClassR} {ps : List CAddr} {d : ClassR} {p : CAddr} (hps : ps.length = l.length) (hd : d.nm ∉ names l) : cpFind (wcp (l ++ [d]) (ps ++ [p])) d.nm = some (d, p) := by
 have h1 : cpFind (wcp l ps) d.nm = none := by
   cases h : cpFind (wcp l ps) d.nm with
   | none => rfl
   | some cp =>
     exfalso
     have h2 := isSome_some h
     rw [cl_wcp hps] at h2
     exact hd (look_some.1 (by rw [h2]; rfl))
 unfold wcp cpFind at h1 ⊢
 rw [List.zip_append hps.symm, ← List.append_assoc, List.find?_append, h1]
 simp
abbrev topQ (gi : Nat) : MAddr := ⟨some ⟨gi, 0, none⟩, 8, none, 0⟩
abbrev topP (gi gm : Nat) : CAddr := ⟨none, 0, none, 0, some ⟨gm, 0, none⟩, 1, [topQ gi]⟩
theorem top_at {W : World} {gi gm : Nat} {c x y : Nm} {k : Int} (hi : Blk W gi 35 ((topI c x y k).map insCells).flatten.toArray) (hm : Blk W gm 39 (mArr (topM c x y k) (topQ gi))) : ClassAt W (topC c x y k) (topP gi gm) := by
 refine ⟨⟨Nat.le_refl _, Or.inl rfl⟩, ⟨Nat.le_refl _, Or.inl rfl⟩, rfl, rows_of_blk (L := [methCells (topM c x y k) (topQ gi)]) (by rw [List.flatten_singleton]; exact hm) (Nat.le_refl _) (by intro c hc; rw [List.mem_singleton.1 hc]; rfl), fun j m' p' hm' hp' => ?_⟩
 match j with
 | 0 =>
   simp [topC] at hm'
   simp [topP] at hp'
   subst hm' hp'
   exact ⟨rows_of_blk hi (Nat.le_refl _) (by intro c hc; obtain ⟨x, _, rfl⟩ := List.mem_map.1 hc; rfl), ⟨Nat.le_refl _, Or.inl rfl⟩⟩
 | j + 1 => simp [topC] at hm'
theorem topFields_go (l : List ClassR) (ps : List CAddr) (a : Option Addr) (cap : Nat) (i : Int) (x y : Nm) (n : Int) (w : World) (hC : ClassesAt w a cap l ps) (hF : FormsAt w) (hB : ClsOk l) (hll : l.length ≤ 1048576) (hx : x.length ≤ 1048576) (hy : y.length ≤ 1048576) (h0 : -9223372036854775808 ≤ n) (h1 : n ≤ 9223372036854775807) :
   Calls Tryz.prog 3 #[.slice a l.length cap, .int .i64 i, .string ⟨⟨x⟩⟩, .string ⟨⟨y⟩⟩, .int .i64 n] w fun e w' => e = .returned (.bool true) ∧ Below w.heap.size w w' := by
 have HC := Hd hC
 have HF := Hd hF
 have HB := Hd hB
 have HWR := Hd (fun W => wrap_calls n W h0 h1)
 clear hC hF hB h0 h1
 go_enter Tryz.func3, Tryz.ntmps3
 go_wp2_with fail
 refine (five_calls _ HF.out).mono ?_
 rintro e w1 ⟨rfl, hb1⟩
 have HB1 := Hd hb1
 have HK1 := Hd (wcheck_calls l ps a cap w1 (HC.out.below hb1) (HF.out.below hb1) HB.out)
 clear hb1
 by_cases h0 : l.length = 0
 · have hnil : l = [] := List.eq_nil_of_length_eq_zero h0
   subst hnil
   go_wp2_with fail
   go_ret
   exact ⟨rfl, HB1.out⟩
 have hpos : 0 < l.length := by omega
 have hne : ¬ l = [] := by intro h; rw [h] at h0; simp at h0
 go_wp2_with fail
 refine HK1.out.mono ?_
 rintro e w2 ⟨rfl, hb2⟩
 have HB2 := Hd (bl_trans HB1.out hb2)
 clear hb2 HK1
 by_cases hr1 : readErr l = 0
 case neg =>
   rw [errOf_ne hr1]
   generalize readErr l = z at *
   clear hr1
   go_wp2_with fail
   go_ret
   exact ⟨rfl, HB2.out⟩
 case pos =>
   have HG := Hd ((readErr_zero l).1 hr1)
   rw [hr1, errOf_zero]
   clear hr1
   obtain ⟨ka, hka, eka⟩ := turn_at i l.length hpos (by omega)
   have hu1 : IntKind.u64.wrap (l.length : Int) = (l.length : Int) := by rw [IntKind.wrap_u64]; omega
   rw [hu1] at eka
   obtain ⟨A, hA⟩ : ∃ A, l[ka]? = some A := ⟨_, List.getElem?_eq_getElem hka⟩
   have HA := Hd hA
   obtain ⟨b1, off, pA, rfl, hlt, hpA, hclA, d0, d1, d2, d3, d4, d5⟩ := (HC.out.below HB2.out).cells hA
   obtain ⟨fa, fc, ga, gc, ma, mc, pms⟩ := pA
   simp only at d2 d4 d5
   have hka0 : (0 : Int) ≤ (ka : Int) := Int.natCast_nonneg _
   have hkai : (ka : Int) < (l.length : Int) := by omega
   clear hA hpA hclA
   go_wp2_with fail
   refine (HWR.out _).mono ?_
   rintro e w3 ⟨rfl, rfl⟩
   obtain ⟨w3, hw3⟩ : ∃ w3, w3 = w2.alloc (.cells #[.string ⟨⟨A.nm⟩⟩, .string ⟨⟨A.sup⟩⟩, .slice fa A.faces.length fc, .bool A.face, .slice ga A.fields.length gc, .slice ma A.meths.length mc] 31) := ⟨_, rfl⟩
   obtain ⟨w4, hw4⟩ : ∃ w4, w4 = w3.alloc (.cells #[.int .i64 15, .int .i64 0, .int .i64 0, .string ⟨#[]⟩, .string ⟨⟨A.nm⟩⟩, .string ⟨#[]⟩, .int .i64 5, .int .i64 0, .int .i64 0, .string ⟨#[]⟩, .string ⟨#[]⟩, .string ⟨#[]⟩, .int .i64 4, .int .i64 0, .int .i64 0, .string ⟨#[]⟩, .string ⟨#[]⟩, .string ⟨#[]⟩, .int .i64 2, .int .i64 (wrap32 n), .int .i64 0, .string ⟨#[73]⟩, .string ⟨#[]⟩, .string ⟨#[]⟩, .int .i64 17, .int .i64 0, .int .i64 0, .string ⟨#[]⟩, .string ⟨⟨A.nm⟩⟩, .string ⟨⟨x⟩⟩, .int .i64 4, .int .i64 0, .int .i64 0, .string ⟨#[]⟩, .string ⟨#[]⟩, .string ⟨#[]⟩, .int .i64 16, .int .i64 0, .int .i64 0, .string ⟨#[]⟩, .string ⟨⟨A.nm⟩⟩, .string ⟨⟨y⟩⟩, .int .i64 27, .int .i64 0, .int .i64 0, .string ⟨#[]⟩, .string ⟨#[]⟩, .string ⟨#[]⟩] 35) := ⟨_, rfl⟩
   have hb3 : Below w2.heap.size w2 w3 := by rw [hw3]; exact bl_alloc (Below.refl _ _) _
   have hb4 : Below w3.heap.size w3 w4 := by rw [hw4]; exact bl_alloc (Below.refl _ _) _
   have hs3 : w3.heap.size = w2.heap.size + 1 := by rw [hw3]; simp
   have HD3 := Hd (show Blk w3 w2.heap.size 31 #[.string ⟨⟨A.nm⟩⟩, .string ⟨⟨A.sup⟩⟩, .slice fa A.faces.length fc, .bool A.face, .slice ga A.fields.length gc, .slice ma A.meths.length mc] by rw [hw3]; exact blk_new _ _ _ _ rfl)
   have HI4 := Hd (show Blk w4 (w2.heap.size + 1) 35 ((topI A.nm x y (wrap32 n)).map insCells).flatten.toArray by rw [hw4]; exact blk_new _ _ _ _ (by rw [hw3]; simp))
   have HD4 := Hd (HD3.out.below hb4)
   have HB4 := Hd (bl_trans HB2.out (bl_trans hb3 hb4))
   have HC4 := Hd (HC.out.below HB4.out)
   have ho0 : (w4.alloc (.cells #[] 31)).ownsRow w4.heap.size 31 6 (.slice (some ⟨w4.heap.size, 0, none⟩) 0 0) 0 [] := World.ownsRow_made w4 #[] 0 (Nat.le_refl _) (by unfold maxLen; omega) rfl
   have HO0 := Hd ho0
   clear ho0 hlt d0 d1 d2 d3 d4 d5 hb3 hb4
   go_upto_region 9 with fail
   rw [← hw3, ← hw4]
   clear hw3 hw4
   go_wp2_with (at_builtin; refine wpList_append_src0 rowClass rfl _ _ rfl w4.heap.size _ 0 [] rfl ?c0 _ l.length (List.zipWith classCells l ps).flatten rfl ?c1 ?c2 ?c3 ?c4 ?_)
   case c0 => exact HO0.out
   case c1 => exact src_of_classes (HC4.out.below ((Below.refl _ _).alloc (Nat.le_refl _) _))
   case c2 => omega
   case c3 => omega
   case c4 => simp
   intro v5 w5 ho5 hg5
   have hb5 : Below w4.heap.size w4 w5 := Below.grown ((Below.refl _ _).alloc (Nat.le_refl _) _) hg5 (by simp) (fun k hk => by simp [Value.ownBlock] at hk; omega)
   try rw [Nat.zero_add] at ho5
   try rw [List.nil_append] at ho5
   have HO5 := Hd ho5
   have HB5 := Hd hb5
   have hsz5 := hb5.size
   clear ho5 hg5 hb5
   go_wp2_with fail
   refine (main_calls _ _ _ _ _).mono ?_
   rintro e w6 ⟨rfl, hb6⟩
   have HO6 := Hd (own_below HO5.out hb6)
   have HB46 := Hd (HB5.out.trans (hb6.mono hsz5))
   have hsz6 := hb6.size
   obtain ⟨w7, hw7⟩ : ∃ w7, w7 = w6.alloc (.cells #[.string ⟨⟨mainN⟩⟩, .string ⟨⟨[40, 41, 73]⟩⟩, .bool true, .bool false, .bool false, .int .i64 8, .slice (some ⟨w2.heap.size + 1, 0, none⟩) 8 8, .slice none 0 0] 39) := ⟨_, rfl⟩
   have hb7 : Below w6.heap.size w6 w7 := by rw [hw7]; exact bl_alloc (Below.refl _ _) _
   have HM7 := Hd (show Blk w7 w6.heap.size 39 (mArr (topM A.nm x y (wrap32 n)) (topQ (w2.heap.size + 1))) by rw [hw7]; exact blk_new _ _ _ _ rfl)
   have HO7 := Hd (own_below HO6.out hb7)
   have HB47 := Hd (HB46.out.trans (hb7.mono HB46.out.size))
   have hsz7 : w4.heap.size ≤ w7.heap.size := HB47.out.size
   clear hb6 hb7
   obtain ⟨A5, C5, rfl, _⟩ := slice_of_own HO7.out
   go_wp2_with (at_builtin; try rw [← hw7]
                refine wpList_append_one rowClass rfl _ _ rfl w4.heap.size _ l.length (List.zipWith classCells l ps).flatten rfl ?e0 (classCells (topC A.nm x y (wrap32 n)) (topP (w2.heap.size + 1) w6.heap.size)) rfl ?e1 _ rfl ?eg ?e2 ?e3 ?e4 ?_)
   case e0 => exact HO7.out
   case e1 => intro u hu; simp only [classCells, List.mem_cons, List.mem_nil_iff, or_false] at hu; rcases hu with rfl | rfl | rfl | rfl | rfl | rfl <;> rfl
   case eg => rw [hw7]; simp
   case e2 => omega
   case e3 => omega
   case e4 => exact hsz7
   intro v8 w8 ho8 hg8
   rw [← hw7] at hg8
   have hb8 := grown_below hsz7 HO7.out hg8
   have HB48 := Hd (HB47.out.trans hb8)
   obtain ⟨A8, C8, rfl, _⟩ := slice_of_own ho8
   have hM8 : Blk w8 w6.heap.size 39 (mArr (topM A.nm x y (wrap32 n)) (topQ (w2.heap.size + 1))) := blk_grown (HM7.out.alloc _) hg8 (own_noblk HO7.out HM7.out (by decide))
   have HC8 := Hd (classes_own HC4.out (fun cp hcp => (classes_each HC4.out cp hcp).below HB48.out) (top_at (HI4.out.below HB48.out) hM8) ho8)
   have HD8 := Hd (HD4.out.below HB48.out)
   have HB8 := Hd (bl_trans HB4.out HB48.out)
   have HF8 := Hd (HF.out.below HB8.out)
   have HCW8 := Hd (HC.out.below HB8.out)
   have HLN := Hd (show (l ++ [topC A.nm x y (wrap32 n)]).length = l.length + 1 by simp)
   clear ho8 hg8 hb8 hM8 hw7
   have hAw : A ∈ wl l := by unfold wl; simp only [List.mem_cons]; right; right; exact List.mem_of_getElem? HA.out
   have hAn : A.nm.length ≤ 20 := (good_cls HG.out (c := A) hAw).1
   have hAm : A.nm ∈ names l := List.mem_map.2 ⟨A, hAw, rfl⟩
   have HBT := Hd (top_cls (n := n) HB.out (by omega : A.nm.length ≤ 1000) hx hy)
   have HCK := Hd (by have h := cworld_calls (l ++ [topC A.nm x y (wrap32 n)]) (ps ++ [topP (w2.heap.size + 1) w6.heap.size]) A8 C8 w8 HC8.out HF8.out HBT.out (tyB_of HBT.out); rw [HLN.out] at h; exact h)
   have HAM := Hd hAm
   clear hAw hAm
   go_wp2_with fail
   refine HCK.out.mono ?_
   rintro e w9 ⟨rfl, hb9⟩
   have HB9 := Hd (bl_trans HB8.out hb9)
   have HC9 := Hd (HC8.out.below hb9)
   have HD9 := Hd (HD8.out.below hb9)
   clear hb9 HCK
   by_cases hck : ckErr (l ++ [topC A.nm x y (wrap32 n)]) = 0
   case neg =>
     rw [errOf_ne hck]
     generalize ckErr (l ++ [topC A.nm x y (wrap32 n)]) = z at *
     clear hck
     go_wp2_with fail
     go_ret
     exact ⟨rfl, HB9.out⟩
   case pos =>
     obtain ⟨hg', pi, pj, hi', hj', hi, hj, hnm, hlk, hval⟩ := top_good HG.out hck HAM.out
     have hps := HC.out.1
     have HRC := Hd (rcall_calls (l ++ [topC A.nm x y (wrap32 n)]) (ps ++ [topP (w2.heap.size + 1) w6.heap.size]) A8 C8 main9 [] (none, 0) 100 w9 HC9.out (HF.out.below HB9.out) HBT.out ⟨Nat.le_refl _, Or.inl rfl⟩ hck (by simp [main9])
       (topC A.nm x y (wrap32 n), topP (w2.heap.size + 1) w6.heap.size) (top_find hps (good_new hg')) (topM A.nm x y (wrap32 n)) [] rfl rfl [] [73] top_ty (by simp [topM]) rfl (fun j v t h => by simp at h) (by omega) (by omega) 8 rfl (by omega) (by simp) (Or.inr rfl) 1 (if pi = pj then wrap32 n else 0) [] 8
       (fun w5 w6 K c' lb cs cc b lq q' _ hW hM hmac => top_run (l ++ [topC A.nm x y (wrap32 n)]) _ A.nm x y (wrap32 n) pi pj _ w5 w6 K c' lb cs cc b main9 q' lq hW hnm hlk hi' hj' hval hmac hM.1))
     rw [hck, errOf_zero]
     rw [HLN.out] at HRC
     have HI := Hd hi
     have HJ := Hd hj
     have HW0 := Hd (show withErr l A.nm = 0 from withErr_zero.2 ⟨HG.out, HAM.out⟩)
     obtain ⟨val, hvl⟩ : ∃ val : Int, val = if pi = pj then wrap32 n else 0 := ⟨_, rfl⟩
     rw [← hvl] at HRC
     have HVL := Hd hvl
     have HPL := Hd (fun f W (hW : Below w.heap.size w W) => place_calls l ps _ cap A.nm f W (HC.out.below hW) (HF.out.below hW) HB.out (by omega))
     clear hck hg' hi' hj' hi hj hnm hlk hval hvl
     go_wp2_with fail
     refine HRC.out.mono ?_
     rintro e w10 ⟨rfl, hb10⟩
     obtain ⟨w11, hw11⟩ : ∃ w11, w11 = w10.alloc (.cells #[.int .i64 1, .int .i64 val, .string ⟨#[]⟩, .int .i64 8] 44) := ⟨_, rfl⟩
     have hb11 : Below w10.heap.size w10 w11 := by rw [hw11]; exact bl_alloc (Below.refl _ _) _
     have HT11 := Hd (show Blk w11 w10.heap.size 44 #[.int .i64 1, .int .i64 val, .string ⟨#[]⟩, .int .i64 8] by rw [hw11]; exact blk_new _ _ _ _ rfl)
     have HB11 := Hd (bl_trans HB9.out (bl_trans hb10 hb11))
     have HD11 := Hd (HD9.out.below (bl_trans hb10 hb11))
     have d0 := HD11.out.cell 0
     have d9 := HD11.out.lt
     unfold toldV
     clear hb10 hb11 HRC
     go_upto_region 13 with fail
     rw [← hw11]
     clear hw11
     go_wp2_with fail
     refine (HPL.out x w11 HB11.out).mono ?_
     rintro e w12 ⟨hb12, v12, ev12, rfl, hv12⟩
     obtain ⟨rfl, rfl⟩ : v12 = .int .i64 pi ∧ ev12 = .nilIface := by
       rcases hv12 with ⟨z, ⟨_, h | h⟩, _, _⟩ | ⟨_, h2, k, hk, _, h3⟩
       · exact absurd HW0.out h
       · rw [HI.out] at h; cases h
       · rw [HI.out] at hk; cases hk; exact ⟨h3, h2⟩
     have HB12 := Hd (bl_trans HB11.out hb12)
     have HT12 := Hd (HT11.out.below hb12)
     have HD12 := Hd (HD11.out.below hb12)
     clear hb12 hv12 d0 d9
     have d0 := HD12.out.cell 0
     have d9 := HD12.out.lt
     go_wp2_with fail
     refine (HPL.out y w12 HB12.out).mono ?_
     rintro e w13 ⟨hb13, v13, ev13, rfl, hv13⟩
     obtain ⟨rfl, rfl⟩ : v13 = .int .i64 pj ∧ ev13 = .nilIface := by
       rcases hv13 with ⟨z, ⟨_, h | h⟩, _, _⟩ | ⟨_, h2, k, hk, _, h3⟩
       · exact absurd HW0.out h
       · rw [HJ.out] at h; cases h
       · rw [HJ.out] at hk; cases hk; exact ⟨h3, h2⟩
     have HB13 := Hd (bl_trans HB12.out hb13)
     have HT13 := Hd (HT12.out.below hb13)
     clear hb13 hv13 d0 d9
     have t0 := HT13.out.cell 0
     have t1 := HT13.out.cell 1
     have t2 := HT13.out.cell 2
     have t3 := HT13.out.cell 3
     have t9 := HT13.out.lt
     by_cases hpp : pi = pj
     · have hvv := HVL.out
       rw [if_pos hpp] at hvv
       clear HVL
       subst hvv hpp
       go_wp2_with fail
       go_ret
       exact ⟨rfl, HB13.out⟩
     · have hvv := HVL.out
       rw [if_neg hpp] at hvv
       have hq1 : ((pi : Int) == (pj : Int)) = false := by rw [beq_eq_false_iff_ne]; omega
       have hq2 : (pi == pj) = false := by rw [beq_eq_false_iff_ne]; exact hpp
       clear HVL
       subst hvv
       clear hpp
       go_wp2_with fail
       go_ret
       exact ⟨rfl, HB13.out⟩
theorem topFields.walk {H : Type} {enc : TypeId × Value → H} {W : World} {base : Nat}
   {v0 : Value} {d0 : DataW H} {p0 : List MemPlace} (hv0 : Value.okWide Tryz.prog W .any base 22 v0) (h0 : DataW.Trod enc Tryz.prog W 0 (fun _ => true) true 22 v0 d0 p0)
   (n1 : Int) (wf1 : (Lit.int .i64 n1).wf = true)
   (s2 : ByteArray) (hs2 : s2.size ≤ maxLen) (hr2 : s2.data.toList.length ≤ reachBytes)
   (s3 : ByteArray) (hs3 : s3.size ≤ maxLen) (hr3 : s3.data.toList.length ≤ reachBytes)
   (n4 : Int) (wf4 : (Lit.int .i64 n4).wf = true)
   (W' : World) (hW : W' = W) (hL : laidMetH Tryz.prog Rows.topFieldsUptoRow.laid W) {S : Prop} (_ : S) (hbulk : Rows.uptoBulkAll [d0, DataW.lit (.int .i64 n1), DataW.lit (.string s2.data.toList), DataW.lit (.string s3.data.toList), DataW.lit (.int .i64 n4)] ≤ 1048576) :
   Calls Tryz.prog 3 #[v0, .int .i64 n1, .string s2, .string s3, .int .i64 n4] W' fun e w' => e = .returned (.bool true) ∧ Below W'.heap.size W' w' := by
 subst hW
 obtain ⟨a0, len0, cap0, rfl⟩ := WideShapes.okWide_slice Tryz.underlying22 hv0
 obtain ⟨fuel0, hf0⟩ := h0
 obtain ⟨aa0, cc0, l0, ps0, hcs0, hC0, hll0, ht0⟩ := open_classes hf0
 simp only [Value.cells, List.cons.injEq, and_true] at hcs0
 rw [hcs0]
 obtain ⟨⟨x2⟩⟩ := s2
 obtain ⟨⟨x3⟩⟩ := s3
 simp only [Rows.uptoBulkAll, Rows.uptoBulk] at hbulk
 have h64 : -9223372036854775808 ≤ n4 ∧ n4 ≤ 9223372036854775807 := by simpa [Lit.wf, IntKind.min, IntKind.max, IntKind.signed, IntKind.bits] using wf4
 exact topFields_go l0 ps0 aa0 cc0 n1 x2 x3 n4 W' hC0 (forms_of_laid hL (by kernel_rfl)) (ht0 (by omega)) (by omega) (by omega) (by omega) h64.1 h64.2
end Go.Proofs.YtfimajijegohmaaGreatDoor
