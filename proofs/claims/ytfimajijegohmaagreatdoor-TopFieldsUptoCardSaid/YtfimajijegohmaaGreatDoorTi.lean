import Derived.Test.YtfimajijegohmaaGreatDoorTh
import Derived.Test.YtfimajijegohmaaGreatDoorRd
namespace Go.Proofs.YtfimajijegohmaaGreatDoor
set_option maxRecDepth 100000
set_option maxHeartbeats 8000000
set_option linter.unusedVariables false
set_option linter.unusedSimpArgs false
open Go.RowKit Go.Shelf Go.Lib Go.Sort
theorem own_blk {w : World} {B : Nat} {e : TypeId} {size : Nat} {v : Value} {n : Nat} {xs : List Value} (h : w.ownsRow B e size v n xs) {g : Nat} (hg : v.ownBlock = some g) : ∃ cur, Blk w g e cur := by
 rcases h.2 with ⟨rfl, _⟩ | ⟨k, cap, cur, rfl, _, hk, _⟩
 · cases hg
 · simp only [Value.ownBlock, Option.some.injEq] at hg
   subst hg
   exact ⟨cur, hk⟩
theorem ownv_store {w : World} {B : Nat} {l : List ValR} {q : HA} (h : OwnV w B l q) {g i : Nat} {v : ValR} (hg : q.1 = some ⟨g, 0, none⟩) (hi : i < l.length) : OwnV ((w.setCell ⟨g, i * 2, none⟩ (.int .i64 v.kind)).setCell ⟨g, i * 2 + 1, none⟩ (.int .i64 v.n)) B (l.set i v) q := by
 unfold OwnV at h ⊢
 refine ⟨by rw [valsL_len], ?_⟩
 rcases h.2 with ⟨h0, h1⟩ | ⟨g2, cap, cur, hv, hB, hb, hle, hmx, hsz, htk⟩
 · omega
 · simp only [Value.slice.injEq] at hv
   obtain ⟨h1, _, rfl⟩ := hv
   rw [hg] at h1
   simp only [Option.some.injEq, Addr.mk.injEq, and_true] at h1
   subst h1
   have hb' : Blk w g 42 cur := hb
   have hb2 := blk_set (blk_set hb' (i * 2) (.int .i64 v.kind)) (i * 2 + 1) (.int .i64 v.n)
   refine Or.inr ⟨g, q.2, _, by rw [hg, List.length_set], hB, hb2, by rw [List.length_set]; exact hle, hmx, by simpa using hsz, ?_⟩
   rw [Array.toList_setIfInBounds, Array.toList_setIfInBounds, List.take_set, List.take_set, List.length_set, htk]
   exact valsL_set l i v hi
structure HpAt (w : World) (B lb : Nat) (hv : Value) (X : List ThingR) (qs : List HA) (v : Value) : Prop where
 own : OwnT w B hv X qs
 nil : X = [] → hv = .slice none 0 0
 ap : ∀ (k : Nat) (x : ThingR) (q : HA) (g : Nat), X[k]? = some x → qs[k]? = some q → (hsV x.has q).ownBlock = some g → g ≠ lb ∧ v.ownBlock ≠ some g
section
variable {W0 w w' : World} {B K c lb cs cc b : Nat} {hv : Value} {s : Int} {cl : Nm} {m : MethR} {q : MAddr} {pc : Int} {lo st : List ValR} {lq sq : HA} {X : List ThingR} {qs : List HA} {v : Value}
theorem HpAt.start (w : World) (B lb : Nat) (v : Value) : HpAt w B lb (.slice none 0 0) [] [] v := ⟨⟨rfl, World.ownsRow_nil _ _ _ _, fun k x q h => by simp at h⟩, fun _ => rfl, fun k x q g h => by simp at h⟩
theorem HpAt.below (h : HpAt w B lb hv X qs v) (hb : Below w.heap.size w w') : HpAt w' B lb hv X qs v := ⟨h.own.below hb, h.nil, h.ap⟩
theorem HpAt.keep {v' : Value} (h : HpAt w B lb hv X qs (hsV st sq)) (hc : CallAt w B c lb cl m q pc lo st lq sq) (hk : KbR c lb (hsV st sq) w w') (hu : VUp w (hsV st sq) v') : HpAt w' B lb hv X qs v' := by
 refine ⟨⟨h.own.len, own_keep2 h.own.row fun g hg => ?_, fun k x p hx hp => own_keep2 (h.own.has k x p hx hp) fun g hg => ?_⟩, h.nil, fun k x p g hx hp hg => ?_⟩
 · obtain ⟨cur, hb⟩ := own_blk h.own.row hg
   obtain ⟨n1, n2, n3⟩ := hc.apart hb (by decide) (by decide)
   exact hk.block g hb.lt n1 n2 n3
 · obtain ⟨n2, n3⟩ := h.ap k x p g hx hp hg
   have n1 : g ≠ c := fun e => ownv_ne (h.own.has k x p hx hp) hc.blk (by decide) (e ▸ hg)
   exact hk.block g ((h.own.has k x p hx hp).lt g hg).2 n1 n2 n3
 · obtain ⟨n2, n3⟩ := h.ap k x p g hx hp hg
   refine ⟨n2, fun e => ?_⟩
   rcases hu with hu | hu
   · exact n3 (hu ▸ e)
   · have := hu g e
     have := ((h.own.has k x p hx hp).lt g hg).2
     omega
theorem HpAt.put {g j : Nat} {T : TypeId} {cur : Array Value} (h : HpAt w B lb hv X qs v) (hb : Blk w g T cur) (h1 : T ≠ 149) (h2 : T ≠ 42) (u : Value) : HpAt (w.setCell ⟨g, j, none⟩ u) B lb hv X qs v := ⟨h.own.put hb h1 h2 u, h.nil, h.ap⟩
theorem MacAt.hv_gb {hv' : Value} (h : MacAt W0 w K c lb cs cc b hv s cl m q pc lo st lq sq) (hg : w.grownBy w' (some K)) (hb : Blk w' K 104 (macArr b hv' (.slice (some ⟨cs, 0, none⟩) 1 cc) 0 0 [] s false)) : MacAt W0 w' K c lb cs cc b hv' s cl m q pc lo st lq sq := by
 obtain ⟨n1, _, n3⟩ := h.call.apart h.blk (by decide) (by decide)
 have hb1 : (hsV lo lq).ownBlock ≠ some K := ownv_ne h.call.low h.blk (by decide)
 have hk : ∀ g, g < w.heap.size → g ≠ K → w'.heap[g]? = w.heap[g]? := fun g hl hne => hg.block g hl (by intro e; simp at e; exact hne e)
 refine ⟨hb, own_keep2 h.row fun g hgb => ?_, ⟨gb_blk hg h.call.blk (fun e => n1 e.symm), own_keep2 h.call.low fun g hgb => hk g (h.call.low.lt g hgb).2 (fun e => hb1 (e ▸ hgb)), own_keep2 h.call.sow fun g hgb => hk g (h.call.sow.lt g hgb).2 (fun e => n3 (e ▸ hgb)), h.call.ap, h.call.lb, h.call.cB⟩, h.bK, h.bel.trans ⟨hg.os, hg.tape, hg.output, hg.size, fun g hgl => hk g (Nat.lt_of_lt_of_le hgl h.bel.size) (by have := h.bK; omega)⟩⟩
 refine hk g (h.row.lt g hgb).2 (fun e => ?_)
 subst e
 obtain ⟨cur, hc⟩ := own_blk h.row hgb
 have h1 : w.heap[g]? = some (.cells _ _ (0, 0)) := hc
 have h2 : w.heap[g]? = some (.cells _ _ (0, 0)) := h.blk
 rw [h2] at h1
 simp at h1
theorem CallAt.lb_lt {w : World} {B c lb : Nat} (h : CallAt w B c lb cl m q pc lo st lq sq) : lb < w.heap.size := by
 rcases h.lb with e | ⟨_, e⟩
 · exact (h.low.lt _ e).2
 · rw [e]; exact h.blk.lt
end
theorem OwnT.one {w : World} {B : Nat} {hv : Value} {x : ThingR} {qs : List HA} (h : OwnT w B hv [x] qs) : ∃ gt ct q, hv = .slice (some ⟨gt, 0, none⟩) 1 ct ∧ qs = [q] ∧ gt < w.heap.size ∧ 1 ≤ ct ∧ w.cell? ⟨gt, 0, none⟩ = some (.string ⟨⟨x.ty⟩⟩) ∧ w.cell? ⟨gt, 1, none⟩ = some (.slice q.1 x.has.length q.2) ∧ OwnV w B x.has q := by
 obtain ⟨q, rfl⟩ : ∃ q, qs = [q] := by
   have := h.len
   match qs with
   | [q] => exact ⟨q, rfl⟩
   | [] => simp at this
   | a :: b :: r => simp at this
 have hr := h.row
 rcases hr.2 with ⟨_, h1⟩ | ⟨g, cap, cur, rfl, hB, hb, hle, hmx, hsz, htk⟩
 · simp at h1
 have hb' : Blk w g 149 cur := hb
 have e : cur.toList.take 2 = [.string ⟨⟨x.ty⟩⟩, .slice q.1 x.has.length q.2] := by
   have := htk
   simpa [thsL, thCells] using this
 have e0 : cur[0]? = some (.string ⟨⟨x.ty⟩⟩) := by
   have h0 := congrArg (·[0]?) e
   simpa [List.getElem?_take] using h0
 have e1 : cur[1]? = some (.slice q.1 x.has.length q.2) := by
   have h0 := congrArg (·[1]?) e
   simpa [List.getElem?_take] using h0
 exact ⟨g, cap, q, rfl, rfl, hb'.lt, by simpa using hle, by rw [hb'.cell]; exact e0, by rw [hb'.cell]; exact e1, h.has 0 x q rfl rfl⟩
theorem typesF_len {l : List ClassR} (hg : Good l) (n : Nm) : (typesF (wl l) n).length ≤ 104 := by
 have := slotsF_len hg n
 unfold typesF
 rw [List.length_map]
 exact this
theorem fresh_cls (l : List ClassR) (L : List CP) (b : Nat) (n : Nm) (w : World) (hW : WOk w b l L) (hn : n.length ≤ 1000) :
   Calls Tryz.prog 147 #[.map (some b), .string ⟨⟨n⟩⟩] w fun e w' => (∃ g, e = .returned (.agg #[.string ⟨⟨thing n⟩⟩, .slice (some ⟨g, 0, none⟩) (typesF (wl l) n).length (typesF (wl l) n).length]) ∧ Blk w' g 42 (valsL (List.replicate (typesF (wl l) n).length ⟨0, 0⟩)).toArray ∧ w.heap.size ≤ g) ∧ Below w.heap.size w w' := by
 have HT := Hd (fun W (hw : Below w.heap.size w W) => types_calls l L b n W (hW.below hw) (by omega))
 have HTH := Hd (fun W => thing_calls n (by omega) W)
 have hTl := typesF_len hW.good n
 clear hW hn
 generalize typesF (wl l) n = Ts at *
 obtain ⟨k, hk⟩ : ∃ k, k = Ts.length := ⟨_, rfl⟩
 have HKL := Hd hk
 rw [← hk] at hTl ⊢
 obtain ⟨F, hF⟩ := made_vals k (by omega)
 have HF := Hd hF
 have HZ := Hd (blk_new w w.heap.size 149 #[.string ⟨#[]⟩, .slice none 0 0] rfl)
 obtain ⟨T, hT⟩ : ∃ T, T = thing n := ⟨_, rfl⟩
 rw [← hT] at HTH ⊢
 clear hF hT hk
 go_enter Tryz.func147, Tryz.ntmps147
 go_wp2_with fail
 refine (HTH.out _).mono ?_
 rintro e w2 ⟨rfl, rfl⟩
 go_wp2_with fail
 refine (HT.out _ (bl_alloc (Below.refl _ _) _)).mono ?_
 rintro e w3 ⟨⟨v, rfl, ho⟩, hb3⟩
 rw [← HKL.out] at ho
 obtain ⟨a3, c3, rfl, _⟩ := slice_of_own ho
 obtain ⟨hF1, hF2, hF3⟩ := HF.out w3
 obtain ⟨w4, hw4⟩ : ∃ w4, w4 = F w3 := ⟨_, rfl⟩
 rw [← hw4] at hF1 hF2 hF3
 have hF1' : (Instr.makeSlice 87 (.int .i64 k) (.int .i64 k)).run Tryz.prog w3 = .ok (.slice (some ⟨w3.heap.size, 0, none⟩) k k) w4 := hF1
 have hb4 : Below w3.heap.size w3 w4 := ⟨hF3.os, hF3.tape, hF3.output, hF3.size, fun k hk => hF3.block k hk (by simp)⟩
 have hz := (HZ.out.below hb3).below hb4
 have hs3 := hb3.size
 have hne : w3.heap.size ≠ w.heap.size := by simp at hs3; omega
 have HG9 := Hd (blk_ne (j := 1) (blk_ne (j := 0) hF2 hne (.string ⟨⟨T⟩⟩)) hne (.slice (some ⟨w3.heap.size, 0, none⟩) k k))
 have hgl : w.heap.size ≤ w3.heap.size := by simp at hs3; omega
 have z0 := hz.cell 0
 have z1 := hz.cell 1
 have z2 := hz.frozen 0
 have z3 := hz.frozen 1
 have z4 := hz.lt
 have HB4 := Hd (bl_trans (bl_trans (bl_alloc (Below.refl w.heap.size w) _) hb3) hb4)
 have HZ9 := Hd (blk_set (blk_set hz 0 (.string ⟨⟨T⟩⟩)) 1 (.slice (some ⟨w3.heap.size, 0, none⟩) k k))
 clear hF1 hF2 hF3 hw4 ho hb3 hb4 hz hs3
 go_wp2_with fail
 have y0 := HZ9.out.cell 0
 have y1 := HZ9.out.cell 1
 exact bodyPost_ret (v := .agg #[.string ⟨⟨T⟩⟩, .slice (some ⟨w3.heap.size, 0, none⟩) k k]) (by simp [results, Tryz.results147, go_sem, y0, y1]) rfl ⟨⟨_, rfl, HG9.out, hgl⟩, (HB4.out.setCell (p := ⟨w.heap.size, 0, none⟩) (Nat.le_refl _) _).setCell (p := ⟨w.heap.size, 1, none⟩) (Nat.le_refl _) _⟩
theorem OwnT.putv {w : World} {B : Nat} {v : Value} {x : ThingR} {g k V j : Nat} {cur : Array Value} (h : OwnT w B v [x] [(some ⟨g, 0, none⟩, k)]) (hb : Blk w V 42 cur) (hne : V ≠ g) (u : Value) : OwnT (w.setCell ⟨V, j, none⟩ u) B v [x] [(some ⟨g, 0, none⟩, k)] :=
 ⟨h.len, own_set h.row (own_noblk h.row hb (by decide)) u, fun i y q hy hq => own_set (h.has i y q hy hq) (fun e => by
   match i with
   | 0 =>
     simp only [List.getElem?_cons_zero, Option.some.injEq] at hq
     subst hq
     simp only [hsV, Value.ownBlock, Option.some.injEq] at e
     exact hne e.symm
   | i + 1 => simp at hq) u⟩
theorem hmore_cls (l : List ClassR) (L : List CP) (b g k : Nat) (n : Nm) (B : Nat) (w : World) (hW : WOk w b l L) (hB : B ≤ w.heap.size) (hn : nameOk n = true) (hl : (look (wl l) n).isSome = true) (hk : (typesF (wl l) n).length = k) (hg : Blk w g 42 (valsL (List.replicate k ⟨0, 0⟩)).toArray) (hBg : B ≤ g) :
   Calls Tryz.prog 228 #[.map (some b), .agg #[.slice none 0 0], .agg #[.string ⟨⟨thing n⟩⟩, .slice (some ⟨g, 0, none⟩) k k]] w fun e w' => w.grownBy w' (some g) ∧ ∃ v, e = .returned (.tuple #[.agg #[v], .int .i64 1, .nilIface]) ∧ OwnT w' B v [⟨thing n, (typesF (wl l) n).map zeroV⟩] [(some ⟨g, 0, none⟩, k)] := by
 have hT : TyL (wl l) ⟨thing n, List.replicate k ⟨0, 0⟩⟩ n := ⟨rfl, hn, hl⟩
 exact more_L b (thing n) (typesF (wl l) n) g k B w hB hk (by have := typesF_len hW.good n; omega)
   (fun W hw => by
     have h1 := htypes_L l L b ⟨thing n, List.replicate k ⟨0, 0⟩⟩ (some ⟨g, 0, none⟩, k) n W (hW.below hw) hT
     rw [typesH_L hT] at h1
     simpa using h1) hg hBg
theorem rmore_cls (l : List ClassR) (L : List CP) (K b g k : Nat) (cv : Value) (s : Int) (n : Nm) (B : Nat) (w : World) (hW : WOk w b l L) (hK : Blk w K 104 (macArr b (.slice none 0 0) cv 0 0 [] s false)) (hB : B ≤ w.heap.size) (hn : nameOk n = true) (hl : (look (wl l) n).isSome = true) (hk : (typesF (wl l) n).length = k) (hg : Blk w g 42 (valsL (List.replicate k ⟨0, 0⟩)).toArray) (hBg : B ≤ g) :
   Calls Tryz.prog 146 #[.pointer (some ⟨K, 0, none⟩), .agg #[.string ⟨⟨thing n⟩⟩, .slice (some ⟨g, 0, none⟩) k k]] w fun e w' => e = .returned (.agg #[.int .i64 3, .int .i64 1]) ∧ KbR K g (.slice none 0 0) w w' ∧ ∃ hv, Blk w' K 104 (macArr b hv cv 0 0 [] s false) ∧ OwnT w' B hv [⟨thing n, (typesF (wl l) n).map zeroV⟩] [(some ⟨g, 0, none⟩, k)] := by
 obtain ⟨W, hWd⟩ : ∃ W, W = (w.alloc (.cells #[.string ⟨⟨thing n⟩⟩, .slice (some ⟨g, 0, none⟩) k k] 149)).alloc (.cells #[.int .i64 0, .int .i64 0] 42) := ⟨_, rfl⟩
 have hbW : Below w.heap.size w W := by rw [hWd]; exact bl_alloc (bl_alloc (Below.refl _ _) _) _
 have HX := Hd (show Blk W w.heap.size 149 #[.string ⟨⟨thing n⟩⟩, .slice (some ⟨g, 0, none⟩) k k] by rw [hWd]; exact (blk_new _ _ _ _ rfl).alloc _)
 have HV := Hd (show Blk W (w.heap.size + 1) 42 #[.int .i64 0, .int .i64 0] by rw [hWd]; exact blk_new _ _ _ _ (by simp))
 have HK := Hd (hK.below hbW)
 have HBW := Hd hbW
 have hKl := hK.lt
 have hgl := hg.lt
 have hgK : K ≠ g := fun e => by
   have h1 : w.heap[K]? = some (.cells _ _ (0, 0)) := hK
   have h2 : w.heap[g]? = some (.cells _ _ (0, 0)) := hg
   rw [e, h2] at h1
   simp at h1
 have HMO := Hd (fun W' (hw : Below w.heap.size w W') => hmore_cls l L b g k n B W' (hW.below hw) (Nat.le_trans hB hw.size) hn hl hk (hg.below hw) hBg)
 obtain ⟨Ts, hTs⟩ : ∃ Ts, Ts = (typesF (wl l) n).map zeroV := ⟨_, rfl⟩
 rw [← hTs] at HMO ⊢
 obtain ⟨T, hT⟩ : ∃ T, T = thing n := ⟨_, rfl⟩
 rw [← hT] at HX HMO ⊢
 have hWd2 : W = (w.alloc (.cells #[.string ⟨⟨T⟩⟩, .slice (some ⟨g, 0, none⟩) k k] 149)).alloc (.cells #[.int .i64 0, .int .i64 0] 42) := by rw [hT]; exact hWd
 have HSC := Hd (fun W' (hw : W.grownBy W' (some g)) => (show W'.cell? ⟨K, 0, none⟩ = some (.map (some b)) ∧ W'.cell? ⟨K, 1, none⟩ = some (.slice none 0 0) ∧ W'.cell? ⟨w.heap.size, 0, none⟩ = some (.string ⟨⟨T⟩⟩) ∧ W'.cell? ⟨w.heap.size, 1, none⟩ = some (.slice (some ⟨g, 0, none⟩) k k) from
   ⟨(gb_blk hw HK.out hgK).cell 0, (gb_blk hw HK.out hgK).cell 1, (gb_blk hw HX.out (by omega)).cell 0, (gb_blk hw HX.out (by omega)).cell 1⟩))
 have e1 := HK.out.lt
 clear hW hK hbW hWd hT hn hl hk hg hTs
 go_enter Tryz.func146, Tryz.ntmps146
 go_upto_region 1 with fail
 rw [← hWd2]
 clear hWd2
 go_region_held3 (fun W' => W'.cell? ⟨K, 0, none⟩ = some (.map (some b)) ∧ W'.cell? ⟨K, 1, none⟩ = some (.slice none 0 0) ∧ W'.cell? ⟨w.heap.size, 0, none⟩ = some (.string ⟨⟨T⟩⟩) ∧ W'.cell? ⟨w.heap.size, 1, none⟩ = some (.slice (some ⟨g, 0, none⟩) k k))
   (first | exact HSC.out _ (gb_refl _ _) | exact HSC.out _ (gb_drew (gb_refl _ _)) | exact HSC.out _ (gb_alloc (gb_refl _ _) _) | exact HSC.out _ (gb_drew (gb_alloc (gb_refl _ _) _)) | exact HSC.out _ (gb_alloc (gb_drew (gb_refl _ _)) _) | exact hs4 | exact HSC.out _ hg9 | exact HSC.out _ (gb_alloc hg9 _) | exact hs5)
   ((go_at_call 228
     first
     | (refine (HMO.out W.drew (bl_trans HBW.out (Below.refl _ _).drew)).mono ?_
        rintro e w4 ⟨hg4, hv, rfl, ho4⟩
        obtain ⟨gt, ct, _, rfl, _⟩ := ho4.one
        have hg9 : W.grownBy w4 (some g) := gb_trans (gb_drew (gb_refl W g)) hg4
        have hs4 := HSC.out _ hg9)
     | (refine (HMO.out (W.alloc (.cells #[.slice none 0 0] 100)).drew (bl_trans HBW.out (bl_alloc (Below.refl _ _) _).drew)).mono ?_
        rintro e w4 ⟨hg4, hv, rfl, ho4⟩
        obtain ⟨gt, ct, _, rfl, _⟩ := ho4.one
        have hg9 : W.grownBy w4 (some g) := gb_trans (gb_drew (gb_alloc (gb_refl W g) (.cells #[.slice none 0 0] 100))) hg4
        have hs4 := HSC.out _ hg9
        have hWg : W.heap.size ≠ g := by have := HBW.out.size; omega
        have hz4 := gb_blk hg4 (blk_new W W.heap.size 100 #[.slice none 0 0] rfl).drew hWg
        have hs5 := HSC.out _ (show W.grownBy (w4.setCell ⟨W.heap.size, 0, none⟩ (.slice (some ⟨gt, 0, none⟩) 1 ct)) (some g) from gb_grown hg9 (v := .slice (some ⟨W.heap.size, 0, none⟩) 0 0) (gb_set (gb_refl w4 W.heap.size) 0 (.slice (some ⟨gt, 0, none⟩) 1 ct)) (fun k e => by simp [Value.ownBlock] at e; omega))
        have z0 := hz4.cell 0
        have z1 := hz4.frozen 0
        have z2 := hz4.lt)))
 · have hs9 := hg9.size
   have hVl := HV.out.lt
   obtain ⟨w5, hw5⟩ : ∃ w5, w5 = w4.alloc (.cells #[.slice (some ⟨gt, 0, none⟩) 1 ct] 100) := ⟨_, rfl⟩
   have hg5 : W.grownBy w5 (some g) := by rw [hw5]; exact gb_alloc hg9 _
   have hN5 : Blk w5 w4.heap.size 100 #[.slice (some ⟨gt, 0, none⟩) 1 ct] := by rw [hw5]; exact blk_new _ _ _ _ rfl
   have ho5 : OwnT w5 B (.slice (some ⟨gt, 0, none⟩) 1 ct) [⟨T, Ts⟩] [(some ⟨g, 0, none⟩, k)] := by rw [hw5]; exact ho4.below (bl_alloc (Below.refl _ _) _)
   rw [← hw5]
   clear hw5
   have HK5 := Hd (gb_blk hg5 HK.out hgK)
   have HV5 := Hd (gb_blk hg5 HV.out (show w.heap.size + 1 ≠ g by omega))
   have n0 := hN5.cell 0
   have n1 := hN5.lt
   have k1 := HK5.out.cell 1
   have k2 := HK5.out.frozen 1
   have k3 := HK5.out.lt
   have v0 := HV5.out.cell 0
   have v1 := HV5.out.cell 1
   have v2 := HV5.out.frozen 0
   have v3 := HV5.out.frozen 1
   have v4 := HV5.out.lt
   unfold macArr at k1
   have hVK : w.heap.size + 1 ≠ K := by omega
   have HK9 := Hd (blk_apart (j := 1) (blk_apart (j := 0) (blk_set HK5.out 1 (.slice (some ⟨gt, 0, none⟩) 1 ct)) hVK.symm (.int .i64 3)) hVK.symm (.int .i64 1))
   have HV9 := Hd (blk_set (blk_set (blk_apart (j := 1) HV5.out hVK (.slice (some ⟨gt, 0, none⟩) 1 ct)) 0 (.int .i64 3)) 1 (.int .i64 1))
   have HO9 := Hd (show OwnT (((w5.setCell ⟨K, 1, none⟩ (.slice (some ⟨gt, 0, none⟩) 1 ct)).setCell ⟨w.heap.size + 1, 0, none⟩ (.int .i64 3)).setCell ⟨w.heap.size + 1, 1, none⟩ (.int .i64 1)) B (.slice (some ⟨gt, 0, none⟩) 1 ct) [⟨T, Ts⟩] [(some ⟨g, 0, none⟩, k)] from by
     have h1 := ho5.put (j := 1) HK5.out (by decide) (by decide) (.slice (some ⟨gt, 0, none⟩) 1 ct)
     have h2 := OwnT.putv (j := 0) h1 (blk_apart (j := 1) HV5.out hVK (.slice (some ⟨gt, 0, none⟩) 1 ct)) (by omega) (.int .i64 3)
     exact OwnT.putv (j := 1) h2 (blk_set (blk_apart (j := 1) HV5.out hVK (.slice (some ⟨gt, 0, none⟩) 1 ct)) 0 (.int .i64 3)) (by omega) (.int .i64 1))
   have HG9 := Hd (show KbR K g (.slice none 0 0) w (((w5.setCell ⟨K, 1, none⟩ (.slice (some ⟨gt, 0, none⟩) 1 ct)).setCell ⟨w.heap.size + 1, 0, none⟩ (.int .i64 3)).setCell ⟨w.heap.size + 1, 1, none⟩ (.int .i64 1)) from by
     have h0 : KbR K g (.slice none 0 0) w w5 := ⟨hg5.os.trans HBW.out.os, hg5.tape.trans HBW.out.tape, hg5.output.trans HBW.out.output, Nat.le_trans HBW.out.size hg5.size, fun i hi _ n2 _ => (hg5.block i (Nat.lt_of_lt_of_le hi HBW.out.size) (fun e => n2 (by simpa using e))).trans (HBW.out.block i hi)⟩
     exact ⟨h0.os, h0.tape, h0.output, by have := h0.size; simpa [World.setCell] using this, fun i hi n1 n2 n3 => (Below.heap_setCell _ _ _ i (show i ≠ w.heap.size + 1 by omega)).trans ((Below.heap_setCell _ _ _ i (show i ≠ w.heap.size + 1 by omega)).trans ((Below.heap_setCell _ _ _ i (show i ≠ K from n1)).trans (h0.block i hi n1 n2 n3)))⟩)
   clear hs4 hg9 hg4 ho4 hg5 hN5 ho5
   go_wp2_with fail
   have y0 := HV9.out.cell 0
   have y1 := HV9.out.cell 1
   exact bodyPost_ret (v := .agg #[.int .i64 3, .int .i64 1]) (by simp [results, Tryz.results146, go_sem, y0, y1]) rfl ⟨rfl, HG9.out, _, HK9.out, HO9.out⟩
 · have hs9 := hg9.size
   have hVl := HV.out.lt
   obtain ⟨w5, hw5⟩ : ∃ w5, w5 = w4.setCell ⟨W.heap.size, 0, none⟩ (.slice (some ⟨gt, 0, none⟩) 1 ct) := ⟨_, rfl⟩
   have hg5 : W.grownBy w5 (some g) := by rw [hw5]; exact gb_grown hg9 (v := .slice (some ⟨W.heap.size, 0, none⟩) 0 0) (gb_set (gb_refl w4 W.heap.size) 0 (.slice (some ⟨gt, 0, none⟩) 1 ct)) (fun k e => by simp [Value.ownBlock] at e; omega)
   have hN5 : Blk w5 W.heap.size 100 #[.slice (some ⟨gt, 0, none⟩) 1 ct] := by rw [hw5]; exact blk_set hz4 0 (.slice (some ⟨gt, 0, none⟩) 1 ct)
   have ho5 : OwnT w5 B (.slice (some ⟨gt, 0, none⟩) 1 ct) [⟨T, Ts⟩] [(some ⟨g, 0, none⟩, k)] := by rw [hw5]; exact ho4.put (j := 0) hz4 (by decide) (by decide) (.slice (some ⟨gt, 0, none⟩) 1 ct)
   rw [← hw5]
   clear hw5 hz4 hs5 z0 z1 z2 hWg
   have HK5 := Hd (gb_blk hg5 HK.out hgK)
   have HV5 := Hd (gb_blk hg5 HV.out (show w.heap.size + 1 ≠ g by omega))
   have n0 := hN5.cell 0
   have n1 := hN5.lt
   have k1 := HK5.out.cell 1
   have k2 := HK5.out.frozen 1
   have k3 := HK5.out.lt
   have v0 := HV5.out.cell 0
   have v1 := HV5.out.cell 1
   have v2 := HV5.out.frozen 0
   have v3 := HV5.out.frozen 1
   have v4 := HV5.out.lt
   unfold macArr at k1
   have hVK : w.heap.size + 1 ≠ K := by omega
   have HK9 := Hd (blk_apart (j := 1) (blk_apart (j := 0) (blk_set HK5.out 1 (.slice (some ⟨gt, 0, none⟩) 1 ct)) hVK.symm (.int .i64 3)) hVK.symm (.int .i64 1))
   have HV9 := Hd (blk_set (blk_set (blk_apart (j := 1) HV5.out hVK (.slice (some ⟨gt, 0, none⟩) 1 ct)) 0 (.int .i64 3)) 1 (.int .i64 1))
   have HO9 := Hd (show OwnT (((w5.setCell ⟨K, 1, none⟩ (.slice (some ⟨gt, 0, none⟩) 1 ct)).setCell ⟨w.heap.size + 1, 0, none⟩ (.int .i64 3)).setCell ⟨w.heap.size + 1, 1, none⟩ (.int .i64 1)) B (.slice (some ⟨gt, 0, none⟩) 1 ct) [⟨T, Ts⟩] [(some ⟨g, 0, none⟩, k)] from by
     have h1 := ho5.put (j := 1) HK5.out (by decide) (by decide) (.slice (some ⟨gt, 0, none⟩) 1 ct)
     have h2 := OwnT.putv (j := 0) h1 (blk_apart (j := 1) HV5.out hVK (.slice (some ⟨gt, 0, none⟩) 1 ct)) (by omega) (.int .i64 3)
     exact OwnT.putv (j := 1) h2 (blk_set (blk_apart (j := 1) HV5.out hVK (.slice (some ⟨gt, 0, none⟩) 1 ct)) 0 (.int .i64 3)) (by omega) (.int .i64 1))
   have HG9 := Hd (show KbR K g (.slice none 0 0) w (((w5.setCell ⟨K, 1, none⟩ (.slice (some ⟨gt, 0, none⟩) 1 ct)).setCell ⟨w.heap.size + 1, 0, none⟩ (.int .i64 3)).setCell ⟨w.heap.size + 1, 1, none⟩ (.int .i64 1)) from by
     have h0 : KbR K g (.slice none 0 0) w w5 := ⟨hg5.os.trans HBW.out.os, hg5.tape.trans HBW.out.tape, hg5.output.trans HBW.out.output, Nat.le_trans HBW.out.size hg5.size, fun i hi _ n2 _ => (hg5.block i (Nat.lt_of_lt_of_le hi HBW.out.size) (fun e => n2 (by simpa using e))).trans (HBW.out.block i hi)⟩
     exact ⟨h0.os, h0.tape, h0.output, by have := h0.size; simpa [World.setCell] using this, fun i hi n1 n2 n3 => (Below.heap_setCell _ _ _ i (show i ≠ w.heap.size + 1 by omega)).trans ((Below.heap_setCell _ _ _ i (show i ≠ w.heap.size + 1 by omega)).trans ((Below.heap_setCell _ _ _ i (show i ≠ K from n1)).trans (h0.block i hi n1 n2 n3)))⟩)
   clear hs4 hg9 hg4 ho4 hg5 hN5 ho5
   go_wp2_with fail
   have y0 := HV9.out.cell 0
   have y1 := HV9.out.cell 1
   exact bodyPost_ret (v := .agg #[.int .i64 3, .int .i64 1]) (by simp [results, Tryz.results146, go_sem, y0, y1]) rfl ⟨rfl, HG9.out, _, HK9.out, HO9.out⟩
theorem step_heap (W0 : World) (K c lb cs cc b : Nat) (hv : Value) (s : Int) (cl : Nm) (m : MethR) (q : MAddr) (p : Nat) (lo st st' : List ValR) (nx : Int) (lq sq : HA) (x : InsR) (w : World) (hM : MacAt W0 w K c lb cs cc b hv s cl m q p lo st lq sq) (hC : CodeAt W0 q.ca q.cc m.code) (hx : m.code[p]? = some x) (hml : m.code.length ≤ 1000)
   (h24 : (x.op == 24) = false) (h25 : (x.op == 25) = false) (h26 : (x.op == 26) = false) (h27 : (x.op == 27) = false) (h28 : (x.op == 28) = false)
   (hPL : ∀ W, Below w.heap.size w W → Calls Tryz.prog 152 #[.pointer (some ⟨c, 0, none⟩), insV x] W fun e w' => e = .returned (.int .i64 nx) ∧ Below W.heap.size W w')
   (R : HA → Value → World → Prop) (hR : ∀ sq' hv' W u, MacAt W0 W K c lb cs cc b hv' s cl m q p lo st' lq sq' → R sq' hv' W → R sq' hv' (W.setCell ⟨c, 9, none⟩ u))
   (hHE : ∀ W, Below w.heap.size w W → Calls Tryz.prog 153 #[.pointer (some ⟨K, 0, none⟩), .pointer (some ⟨c, 0, none⟩), insV x] W fun e w' => e = .returned (.tuple #[]) ∧ (∃ sq' hv', MacAt W0 w' K c lb cs cc b hv' s cl m q p lo st' lq sq' ∧ R sq' hv' w') ∧ KeepT W w') :
   Calls Tryz.prog 78 #[.pointer (some ⟨K, 0, none⟩)] w fun e w' => e = .returned (.tuple #[]) ∧ (∃ sq' hv', MacAt W0 w' K c lb cs cc b hv' s cl m q nx lo st' lq sq' ∧ R sq' hv' w') ∧ KeepT w w' := by
 have hmf : ∀ (fn : Fn) (first cap : Array Value) (w : World), (Instr.makeFunc fn first cap).run Tryz.prog w = .ok (.func fn first cap) w := fun _ _ _ _ => rfl
 obtain ⟨w1, hw1⟩ : ∃ w1, w1 = w.alloc (.cells #[.pointer (some ⟨K, 0, none⟩)] 101) := ⟨_, rfl⟩
 have hb1 : Below w.heap.size w w1 := by rw [hw1]; exact bl_alloc (Below.refl _ _) _
 have HP1 := Hd (show Blk w1 w.heap.size 101 #[.pointer (some ⟨K, 0, none⟩)] by rw [hw1]; exact blk_new _ _ _ _ rfl)
 have hM1 := hM.below hb1
 have HM1 := Hd hM1
 have HB1 := Hd hb1
 have HPL := Hd hPL
 have HHE := Hd hHE
 have HRR := Hd hR
 obtain ⟨hk1, hk2, hk3⟩ := hM1.csat
 have e0 := hM1.blk.cell 2
 have e1 := hM1.blk.lt
 have p0 := HP1.out.cell 0
 have p1 := HP1.out.lt
 have c8 := hM1.call.blk.cell 7
 have c9 := hM1.call.blk.cell 9
 have c10 := hM1.call.blk.lt
 obtain ⟨bi, off, hqa, hlt, i0, i1, i2, i3, i4, i5⟩ := (hC.below hM1.bel).cells hx
 have hpl : p < m.code.length := (List.getElem?_eq_some_iff.1 hx).1
 have hp0 : (0 : Int) ≤ (p : Int) := Int.natCast_nonneg _
 have hp1 : (p : Int) < (m.code.length : Int) := by omega
 unfold macArr at e0
 unfold rcArr at c8 c9
 rw [hqa] at c8
 have HC := Hd hC
 have HX := Hd hx
 have HQ := Hd hqa
 obtain ⟨op, ia, ib, ty, cn, nm⟩ := x
 unfold insV at *
 dsimp only at h24 h25 h26 h27 h28
 clear hM hC hx hPL hHE hR hb1 hM1 hqa
 go_enter_defers Tryz.func78, Tryz.ntmps78
 go_upto_region 2 with fail
 rw [← hw1]
 clear hw1
 go_region
 obtain ⟨w2, hw2⟩ : ∃ w2, w2 = w1.drew := ⟨_, rfl⟩
 have hb2 : Below w1.heap.size w1 w2 := by rw [hw2]; exact (Below.refl _ _).drew
 have hs2 : w2.heap.size = w1.heap.size := by rw [hw2]; rfl
 rw [← hw2]
 have HM2 := Hd (HM1.out.below hb2)
 have HP2 := Hd (HP1.out.below hb2)
 have HB2 := Hd (bl_trans HB1.out hb2)
 clear e0 e1 p0 p1 c8 c9 c10 i0 i1 i2 i3 i4 i5 hk1 hk2 hk3 hw2 hb2 hs2 hlt
 have HSC := Hd (fun W (hw : Below w2.heap.size w2 W) => (show W.cell? ⟨c, 7, none⟩ = some (.slice (some ⟨bi, off, none⟩) m.code.length q.cc) ∧ W.cell? ⟨c, 9, none⟩ = some (.int .i64 p) ∧ W.cell? ⟨bi, off + p * 6, none⟩ = some (.int .i64 op) ∧ W.cell? ⟨bi, off + p * 6 + 1, none⟩ = some (.int .i64 ia) ∧ W.cell? ⟨bi, off + p * 6 + 2, none⟩ = some (.int .i64 ib) ∧ W.cell? ⟨bi, off + p * 6 + 3, none⟩ = some (.string ⟨⟨ty⟩⟩) ∧ W.cell? ⟨bi, off + p * 6 + 4, none⟩ = some (.string ⟨⟨cn⟩⟩) ∧ W.cell? ⟨bi, off + p * 6 + 5, none⟩ = some (.string ⟨⟨nm⟩⟩) from by
   obtain ⟨bi2, off2, hqa2, hlt2, i0, i1, i2, i3, i4, i5⟩ := (HC.out.below (HM2.out.below hw).bel).cells HX.out
   rw [HQ.out] at hqa2
   simp only [Option.some.injEq, Addr.mk.injEq, and_true] at hqa2
   obtain ⟨rfl, rfl⟩ := hqa2
   have c8 := (HM2.out.below hw).call.blk.cell 7
   have c9 := (HM2.out.below hw).call.blk.cell 9
   unfold rcArr at c8 c9
   rw [HQ.out] at c8
   exact ⟨c8, c9, i0, i1, i2, i3, i4, i5⟩))
 go_upto_region 3 with fail
 go_region_held3 (fun W' => W'.cell? ⟨c, 7, none⟩ = some (.slice (some ⟨bi, off, none⟩) m.code.length q.cc) ∧ W'.cell? ⟨c, 9, none⟩ = some (.int .i64 p) ∧ W'.cell? ⟨bi, off + p * 6, none⟩ = some (.int .i64 op) ∧ W'.cell? ⟨bi, off + p * 6 + 1, none⟩ = some (.int .i64 ia) ∧ W'.cell? ⟨bi, off + p * 6 + 2, none⟩ = some (.int .i64 ib) ∧ W'.cell? ⟨bi, off + p * 6 + 3, none⟩ = some (.string ⟨⟨ty⟩⟩) ∧ W'.cell? ⟨bi, off + p * 6 + 4, none⟩ = some (.string ⟨⟨cn⟩⟩) ∧ W'.cell? ⟨bi, off + p * 6 + 5, none⟩ = some (.string ⟨⟨nm⟩⟩))
   (first | exact HSC.out _ (Below.refl _ _) | exact HSC.out _ (Below.refl _ _).drew | exact HSC.out _ (bl_alloc (Below.refl _ _) _) | exact HSC.out _ (bl_alloc (Below.refl _ _) _).drew | exact HSC.out _ (bl_alloc (Below.refl _ _).drew _))
   (fail)
 obtain ⟨w3, hw3⟩ : ∃ w3, w3 = (w2.alloc (.cells #[.int .i64 op, .int .i64 ia, .int .i64 ib, .string ⟨⟨ty⟩⟩, .string ⟨⟨cn⟩⟩, .string ⟨⟨nm⟩⟩] 35)).drew := ⟨_, rfl⟩
 have hb3 : Below w2.heap.size w2 w3 := by rw [hw3]; exact (bl_alloc (Below.refl _ _) _).drew
 have HX3 := Hd (show Blk w3 w2.heap.size 35 #[.int .i64 op, .int .i64 ia, .int .i64 ib, .string ⟨⟨ty⟩⟩, .string ⟨⟨cn⟩⟩, .string ⟨⟨nm⟩⟩] by rw [hw3]; exact (blk_new _ _ _ _ rfl).drew)
 have HM3 := Hd (HM2.out.below hb3)
 have HP3 := Hd (HP2.out.below hb3)
 have HB3 := Hd (bl_trans HB2.out hb3)
 rw [← hw3]
 clear hw3 hb3 HSC
 have x0 := HX3.out.cell 0
 have x1 := HX3.out.cell 1
 have x2 := HX3.out.cell 2
 have x3 := HX3.out.cell 3
 have x4 := HX3.out.cell 4
 have x5 := HX3.out.cell 5
 have x9 := HX3.out.lt
 go_wp2_with fail
 refine (HPL.out w3 HB3.out).mono ?_
 rintro e w4 ⟨rfl, hb4⟩
 have HB4 := Hd (bl_trans HB3.out hb4)
 have HX4 := Hd (HX3.out.below hb4)
 have HP4 := Hd (HP3.out.below hb4)
 clear hb4 x0 x1 x2 x3 x4 x5 x9
 have x0 := HX4.out.cell 0
 have x1 := HX4.out.cell 1
 have x2 := HX4.out.cell 2
 have x3 := HX4.out.cell 3
 have x4 := HX4.out.cell 4
 have x5 := HX4.out.cell 5
 have x9 := HX4.out.lt
 have p0 := HP4.out.cell 0
 have p1 := HP4.out.lt
 go_wp2_with fail
 refine (HHE.out w4 HB4.out).mono ?_
 rintro e w5 ⟨rfl, ⟨sq', hv', hm5, hr5⟩, hk5⟩
 have HM5 := Hd hm5
 have HK5 := Hd ((KeepT.of_below HB4.out).trans hk5)
 have HR5 := Hd hr5
 clear hm5 hr5 hk5 x0 x1 x2 x3 x4 x5 x9 p0 p1
 have c9 := HM5.out.call.blk.cell 9
 have c11 := HM5.out.call.blk.frozen 9
 have c10 := HM5.out.call.blk.lt
 unfold rcArr at c9
 obtain ⟨hm6, hk6⟩ := HM5.out.pc_set nx
 have HM6 := Hd hm6
 have HK6 := Hd (show KeepT w (w5.setCell ⟨c, 9, none⟩ (.int .i64 nx)) from HK5.out.trans (HM5.out.call.keepT hk6))
 have HR6 := Hd (HRR.out sq' hv' w5 (.int .i64 nx) HM5.out HR5.out)
 clear hm6 hk6
 go_wp2_with fail
 refine leaves_cons (f := 144) (args := #[.pointer (some ⟨w.heap.size, 0, none⟩)]) (by simp) (by simp [go_sem]) ?_
 refine (rcatch_idle _ _).mono ?_
 rintro e u' w9 ⟨rfl, rfl, rfl⟩
 simp [Leaves, settle, results, Tryz.results78, go_sem]
 exact ⟨⟨sq'.1, sq'.2, hv', HM6.out, HR6.out⟩, HK6.out⟩
structure MK where
 K : Nat
 c : Nat
 lb : Nat
 cs : Nat
 cc : Nat
 b : Nat
 cl : Nm
 m : MethR
 q : MAddr
 lq : HA
def MSt (W0 : World) (k : MK) (s : Int) (p : Nat) (lo st : List ValR) (X : List ThingR) (W : World) : Prop :=
 ∃ sq hv qs, MacAt W0 W k.K k.c k.lb k.cs k.cc k.b hv s k.cl k.m k.q p lo st k.lq sq ∧ HpAt W W0.heap.size k.lb hv X qs (hsV st sq)
section
variable {W0 : World} {k : MK}
theorem MSt.below {s : Int} {p : Nat} {lo st : List ValR} {X : List ThingR} {W W' : World} (h : MSt W0 k s p lo st X W) (hb : Below W.heap.size W W') : MSt W0 k s p lo st X W' := by
 obtain ⟨sq, hv, qs, h1, h2⟩ := h
 exact ⟨sq, hv, qs, h1.below hb, h2.below hb⟩
abbrev StepC (k : MK) (W : World) (P : World → Prop) : Prop := Calls Tryz.prog 78 #[.pointer (some ⟨k.K, 0, none⟩)] W fun e w' => e = .returned (.tuple #[]) ∧ P w' ∧ KeepT W w'
theorem trace_all (n : Nat) (pc : Nat → Nat) (lo st : Nat → List ValR) (X : Nat → List ThingR) (fuel tk tn : Int) (th : Nm) (w : World) (hn0 : 0 < n) (hn : n ≤ 2000) (hfu : (n : Int) ≤ fuel) (h0 : MSt W0 k 0 (pc 0) (lo 0) (st 0) (X 0) w)
   (hmid : ∀ i, i + 1 < n → ∀ W, MSt W0 k ((i : Int) + 1) (pc i) (lo i) (st i) (X i) W → StepC k W (MSt W0 k ((i : Int) + 1) (pc (i + 1)) (lo (i + 1)) (st (i + 1)) (X (i + 1))))
   (hlast : ∀ W, MSt W0 k n (pc (n - 1)) (lo (n - 1)) (st (n - 1)) (X (n - 1)) W → StepC k W fun w' => (∃ hv' cv, Blk w' k.K 104 (macArr k.b hv' cv tk tn th n true)) ∧ Below W0.heap.size W0 w') :
   Calls Tryz.prog 38 #[.pointer (some ⟨k.K, 0, none⟩), .int .i64 fuel] w fun e w' => e = .returned .nilIface ∧ (∃ hv cv, Blk w' k.K 104 (macArr k.b hv cv tk tn th n true)) ∧ KeepT w w' ∧ Below W0.heap.size W0 w' := by
 have hset : ∀ (i : Nat) W, MSt W0 k (i : Int) (pc i) (lo i) (st i) (X i) W → MSt W0 k ((i : Int) + 1) (pc i) (lo i) (st i) (X i) (W.setCell ⟨k.K, 6, none⟩ (.int .i64 ((i : Int) + 1))) := fun i W h => by
   obtain ⟨sq, hv, qs, h1, h2⟩ := h
   exact ⟨sq, hv, qs, (h1.st_set _).1, h2.put h1.blk (by decide) (by decide) _⟩
 have key := run_calls n fuel k.K (fun i W => (i < n → MSt W0 k (i : Int) (pc i) (lo i) (st i) (X i) W) ∧ (i = n → (∃ hv cv, Blk W k.K 104 (macArr k.b hv cv tk tn th n true)) ∧ Below W0.heap.size W0 W)) w
   (fun i W W' h hb => ⟨fun e => (h.1 e).below hb, fun e => by obtain ⟨⟨hv, cv, h1⟩, h2⟩ := h.2 e; exact ⟨⟨hv, cv, h1.below hb⟩, bl_trans h2 hb⟩⟩)
   (fun i W hi h => by
     by_cases e : i = n
     · subst e
       obtain ⟨⟨hv, cv, h1⟩, _⟩ := h.2 rfl
       exact ⟨_, _, _, _, _, _, by rw [show decide (i = i) = true by simp]; exact h1⟩
     · obtain ⟨sq, hv, qs, h1, _⟩ := h.1 (by omega)
       exact ⟨_, _, _, _, _, _, by rw [show decide (i = n) = false by simp; omega]; exact h1.blk⟩)
   (fun i W hi h => by
     have h2 := hset i W (h.1 hi)
     by_cases e : i + 1 < n
     · refine (hmid i e _ h2).mono ?_
       rintro e' w' ⟨he, h3, hk⟩
       exact ⟨he, ⟨fun _ => h3, fun e2 => by omega⟩, hk⟩
     · obtain rfl : n = i + 1 := by omega
       refine (hlast _ (by simpa using h2)).mono ?_
       rintro e' w' ⟨he, h3, hk⟩
       exact ⟨he, ⟨fun e2 => by omega, fun _ => h3⟩, hk⟩)
   hfu hn ⟨fun _ => h0, fun e => by omega⟩
 refine key.mono ?_
 rintro e w' ⟨he, hs, hk⟩
 obtain ⟨h1, h2⟩ := hs.2 rfl
 exact ⟨he, h1, hk, h2⟩
theorem st_plain2 {s : Int} {p p' : Nat} {lo st lo' st' : List ValR} {X : List ThingR} (x : InsR) (hC : CodeAt W0 k.q.ca k.q.cc k.m.code) (hx : k.m.code[p]? = some x) (hml : k.m.code.length ≤ 1000)
   (h24 : (x.op == 24) = false) (h25 : (x.op == 25) = false) (h26 : (x.op == 26) = false) (h27 : (x.op == 27) = false) (h28 : (x.op == 28) = false)
   (hPL : ∀ W sq, CallAt W W0.heap.size k.c k.lb k.cl k.m k.q p lo st k.lq sq → Calls Tryz.prog 152 #[.pointer (some ⟨k.c, 0, none⟩), insV x] W (PRes W0.heap.size k.c k.lb k.cl k.m k.q p lo st lo' st' k.lq sq (p' : Int) W))
   (hHE : ∀ W, Calls Tryz.prog 153 #[.pointer (some ⟨k.K, 0, none⟩), .pointer (some ⟨k.c, 0, none⟩), insV x] W fun e w' => e = .returned (.tuple #[]) ∧ Below W.heap.size W w') :
   ∀ W, MSt W0 k s p lo st X W → StepC k W (MSt W0 k s p' lo' st' X) := by
 rintro W ⟨sq, hv, qs, h1, h2⟩
 refine (step_plain2 W0 k.K k.c k.lb k.cs k.cc k.b hv s k.cl k.m k.q p lo st lo' st' p' k.lq sq x W h1 hC hx hml h24 h25 h26 h27 h28 (fun W' hb => hPL W' sq (h1.below hb).call) hHE).mono ?_
 rintro e w' ⟨he, ⟨sq', h3, hkb, hu⟩, hk⟩
 exact ⟨he, ⟨sq', hv, qs, h3, h2.keep h1.call hkb hu⟩, hk⟩
theorem st_give2 {s : Int} {p : Nat} {lo : List ValR} {v : ValR} {X : List ThingR} (x : InsR) (hC : CodeAt W0 k.q.ca k.q.cc k.m.code) (hx : k.m.code[p]? = some x) (hml : k.m.code.length ≤ 1000) (h27 : x.op = 27) :
   ∀ W, MSt W0 k s p lo [v] X W → StepC k W fun w' => (∃ hv' cv, Blk w' k.K 104 (macArr k.b hv' cv v.kind v.n [] s true)) ∧ Below W0.heap.size W0 w' := by
 rintro W ⟨sq, hv, qs, h1, _⟩
 refine (step_give W0 k.K k.c k.lb k.cs k.cc k.b hv s k.cl k.m k.q p lo [] v k.lq sq x W h1 hC hx hml (by simp) h27).mono ?_
 rintro e w' ⟨he, ⟨cv, h3⟩, hb, hk⟩
 exact ⟨he, ⟨⟨hv, cv, h3⟩, hb⟩, hk⟩
theorem st_heap2 {s : Int} {p : Nat} {lo st st' : List ValR} {X X' : List ThingR} (x : InsR) (hC : CodeAt W0 k.q.ca k.q.cc k.m.code) (hx : k.m.code[p]? = some x) (hml : k.m.code.length ≤ 1000)
   (h24 : (x.op == 24) = false) (h25 : (x.op == 25) = false) (h26 : (x.op == 26) = false) (h27 : (x.op == 27) = false) (h28 : (x.op == 28) = false)
   (hPL : ∀ W sq, CallAt W W0.heap.size k.c k.lb k.cl k.m k.q p lo st k.lq sq → Calls Tryz.prog 152 #[.pointer (some ⟨k.c, 0, none⟩), insV x] W fun e w' => e = .returned (.int .i64 ((p + 1 : Nat) : Int)) ∧ Below W.heap.size W w')
   (hHE : ∀ W, MSt W0 k s p lo st X W → Calls Tryz.prog 153 #[.pointer (some ⟨k.K, 0, none⟩), .pointer (some ⟨k.c, 0, none⟩), insV x] W fun e w' => e = .returned (.tuple #[]) ∧ MSt W0 k s p lo st' X' w' ∧ KeepT W w') :
   ∀ W, MSt W0 k s p lo st X W → StepC k W (MSt W0 k s (p + 1) lo st' X') := by
 rintro W ⟨sq, hv, qs, h1, h2⟩
 refine (step_heap W0 k.K k.c k.lb k.cs k.cc k.b hv s k.cl k.m k.q p lo st st' ((p + 1 : Nat) : Int) k.lq sq x W h1 hC hx hml h24 h25 h26 h27 h28 (fun W' hb => hPL W' sq (h1.below hb).call)
   (fun sq' hv' W' => ∃ qs', HpAt W' W0.heap.size k.lb hv' X' qs' (hsV st' sq')) (fun sq' hv' W' u hm h => by obtain ⟨qs', h⟩ := h; exact ⟨qs', h.put hm.call.blk (by decide) (by decide) u⟩)
   (fun W' hb => (hHE W' ⟨sq, hv, qs, h1.below hb, h2.below hb⟩).mono fun e w' ⟨a, ⟨sq', hv', qs', h3, h4⟩, hk⟩ => ⟨a, ⟨sq', hv', h3, qs', h4⟩, hk⟩)).mono ?_
 rintro e w' ⟨he, ⟨sq', hv', h3, qs', h4⟩, hk⟩
 exact ⟨he, ⟨sq', hv', qs', h3, h4⟩, hk⟩
end
end Go.Proofs.YtfimajijegohmaaGreatDoor
