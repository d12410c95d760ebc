import Derived.Test.YtfimajijegohmaaGreatDoorRa
import Derived.Test.YtfimajijegohmaaGreatDoorCa
namespace Go.Proofs.YtfimajijegohmaaGreatDoor
set_option maxRecDepth 100000
set_option maxHeartbeats 8000000
set_option linter.unusedVariables false
set_option linter.unusedSimpArgs false
open Go.RowKit Go.Shelf Go.Lib
def rcArr (cl : Nm) (m : MethR) (q : MAddr) (pc : Int) (lo st : List ValR) (lq sq : HA) : Array Value :=
 #[.string ⟨⟨cl⟩⟩, .string ⟨⟨m.nm⟩⟩, .string ⟨⟨m.ty⟩⟩, .bool m.stat, .bool m.abst, .bool m.priv, .int .i64 m.loc, .slice q.ca m.code.length q.cc, .slice q.ha m.hs.length q.hc, .int .i64 pc, .slice lq.1 lo.length lq.2, .slice sq.1 st.length sq.2]
abbrev hsV (l : List ValR) (q : HA) : Value := .slice q.1 l.length q.2
structure CallAt (w : World) (B c lb : Nat) (cl : Nm) (m : MethR) (q : MAddr) (pc : Int) (lo st : List ValR) (lq sq : HA) : Prop where
 blk : Blk w c 154 (rcArr cl m q pc lo st lq sq)
 low : OwnV w B lo lq
 sow : OwnV w B st sq
 ap : ∀ k, (hsV lo lq).ownBlock = some k → (hsV st sq).ownBlock ≠ some k
 lb : (hsV lo lq).ownBlock = some lb ∨ ((hsV lo lq).ownBlock = none ∧ lb = c)
 cB : B ≤ c
theorem blk_apart {w : World} {K g j : Nat} {T : TypeId} {cs : Array Value} (h : Blk w K T cs) (hne : K ≠ g) (u : Value) : Blk (w.setCell ⟨g, j, none⟩ u) K T cs := gb_blk (gb_set (gb_refl w g) j u) h hne
theorem ownv_ne {w : World} {B c : Nat} {l : List ValR} {q : HA} {T : TypeId} {cs : Array Value} (ho : OwnV w B l q) (hb : Blk w c T cs) (hT : T ≠ 42) : (hsV l q).ownBlock ≠ some c := by
 intro hv
 rcases ho.2 with ⟨h0, _⟩ | ⟨g2, _, _, h0, _, hg2, _⟩
 · have : (hsV l q) = .slice none 0 0 := h0
   rw [this] at hv; cases hv
 · have : (hsV l q) = .slice (some ⟨g2, 0, none⟩) _ _ := h0
   rw [this] at hv
   simp only [Value.ownBlock, Option.some.injEq] at hv
   subst hv
   rw [show w.heap[g2]? = some (.cells _ _ (0, 0)) from hb] at hg2
   simp at hg2
   exact hT hg2.2
theorem CallAt.below {w w' : World} {B c lb : Nat} {cl : Nm} {m : MethR} {q : MAddr} {pc : Int} {lo st : List ValR} {lq sq : HA} (h : CallAt w B c lb cl m q pc lo st lq sq) (hb : Below w.heap.size w w') : CallAt w' B c lb cl m q pc lo st lq sq :=
 ⟨h.blk.below hb, own_below h.low hb, own_below h.sow hb, h.ap, h.lb, h.cB⟩
theorem CallAt.drew {w : World} {B c lb : Nat} {cl : Nm} {m : MethR} {q : MAddr} {pc : Int} {lo st : List ValR} {lq sq : HA} (h : CallAt w B c lb cl m q pc lo st lq sq) : CallAt w.drew B c lb cl m q pc lo st lq sq := h.below (Below.refl _ _).drew
theorem valsL_snoc (l : List ValR) (v : ValR) : valsL (l ++ [v]) = valsL l ++ vCells v := by simp [valsL]
theorem ownv_init {w : World} {B : Nat} {l : List ValR} {v : ValR} {q : HA} (h : OwnV w B (l ++ [v]) q) : OwnV w B l q := by
 unfold OwnV at h ⊢
 rw [valsL_snoc] at h
 have hl := valsL_len l
 refine ⟨hl, ?_⟩
 rcases h.2 with ⟨h0, h1⟩ | ⟨g, cap', cur, hv, hB, hg, hle, hmx, hsz, htk⟩
 · simp at h1
 · simp only [Value.slice.injEq] at hv
   obtain ⟨h1, _, rfl⟩ := hv
   refine Or.inr ⟨g, q.2, cur, by rw [h1], hB, hg, by simp at hle; omega, hmx, hsz, ?_⟩
   have := congrArg (List.take (l.length * 2)) htk
   rw [List.take_take, Nat.min_eq_left (by rw [List.length_append]; omega), List.take_append_of_le_length (by omega), List.take_of_length_le (l := valsL l) (by omega)] at this
   exact this
theorem ownv_at {w : World} {B : Nat} {l : List ValR} {q : HA} (h : OwnV w B l q) {j : Nat} {v : ValR} (hj : l[j]? = some v) : ∃ g, q.1 = some ⟨g, 0, none⟩ ∧ g < w.heap.size ∧ B ≤ g ∧ w.cell? ⟨g, j * 2, none⟩ = some (.int .i64 v.kind) ∧ w.cell? ⟨g, j * 2 + 1, none⟩ = some (.int .i64 v.n) ∧ w.frozen? ⟨g, j * 2, none⟩ = false ∧ w.frozen? ⟨g, j * 2 + 1, none⟩ = false ∧ l.length ≤ q.2 := by
 have hh := h.at
 obtain ⟨b, off, h1, h2, h3, h4⟩ := hh.cells hj
 unfold OwnV at h
 rcases h.2 with ⟨h0, h5⟩ | ⟨g, cap', cur, hv, hB, hg, hle, _⟩
 · have := List.eq_nil_of_length_eq_zero h5
   subst this; simp at hj
 · simp only [Value.slice.injEq] at hv
   obtain ⟨h6, _, rfl⟩ := hv
   rw [h6] at h1
   simp only [Option.some.injEq, Addr.mk.injEq, and_true] at h1
   obtain ⟨rfl, rfl⟩ := h1
   rw [Nat.zero_add] at h3 h4
   exact ⟨g, h6, h2, hB, h3, h4, by simp [World.frozen?, hg], by simp [World.frozen?, hg], hle⟩
structure CRes (w w' : World) (B c lb : Nat) (cl : Nm) (m : MethR) (q : MAddr) (pc : Int) (lo st' : List ValR) (lq sq sq' : HA) (v v' : Value) : Prop where
 at_ : CallAt w' B c lb cl m q pc lo st' lq sq'
 kb : KbR c lb v w w'
 up : VUp w v v'
theorem rpop_calls (B c lb : Nat) (cl : Nm) (m : MethR) (q : MAddr) (pc : Int) (lo st : List ValR) (v : ValR) (lq sq : HA) (w : World) (h : CallAt w B c lb cl m q pc lo (st ++ [v]) lq sq) (hl : st.length ≤ 1000) :
   Calls Tryz.prog 150 #[.pointer (some ⟨c, 0, none⟩)] w fun e w' => e = .returned (vV v) ∧ CallAt w' B c lb cl m q pc lo st lq sq ∧ w.grownBy w' (some c) := by
 have e0 := h.blk.cell 11
 have e1 := h.blk.lt
 have e2 := h.blk.frozen 11
 unfold rcArr at e0
 obtain ⟨g, hga, hgl, hgB, k0, k1, _, _, hcap⟩ := ownv_at h.sow (j := st.length) (v := v) (by simp)
 rw [show (st ++ [v]).length = st.length + 1 by simp] at e0
 rw [List.length_append, List.length_singleton] at hcap
 have HO := Hd (ownv_init h.sow)
 have HS := Hd h
 have HGA := Hd hga
 rw [hga] at e0
 have i0 : (0 : Int) ≤ (st.length : Int) := Int.natCast_nonneg _
 have i1 : (st.length : Int) < (st.length : Int) + 1 := by omega
 have i2 : (st.length : Int) ≤ (sq.2 : Int) := by omega
 have HR := Hd (show ∀ W, Below w.heap.size w W → CallAt (W.setCell ⟨c, 11, none⟩ (.slice (some ⟨g, 0, none⟩) st.length sq.2)) B c lb cl m q pc lo st lq sq from fun W hW => by
   have hh := HS.out.below hW
   have hb1 : (hsV lo lq).ownBlock ≠ some c := ownv_ne hh.low hh.blk (by decide)
   have hb2 : (hsV st sq).ownBlock ≠ some c := ownv_ne (own_below HO.out hW) hh.blk (by decide)
   refine ⟨?_, own_set hh.low hb1 _, own_set (own_below HO.out hW) hb2 _, fun k hk => ?_, hh.lb, hh.cB⟩
   · have e : rcArr cl m q pc lo st lq sq = (rcArr cl m q pc lo (st ++ [v]) lq sq).setIfInBounds 11 (.slice (some ⟨g, 0, none⟩) st.length sq.2) := by unfold rcArr; rw [HGA.out]; rfl
     rw [e]
     exact blk_set hh.blk 11 _
   · have := hh.ap k hk
     simp only [hsV, HGA.out, Value.ownBlock] at this ⊢
     exact this)
 clear h hga
 go_enter Tryz.func150, Tryz.ntmps150
 go_wp2_with fail
 exact bodyPost_ret (v := vV v) (by simp [results, Tryz.results150, go_sem, vV]) rfl ⟨rfl, (HR.out w (Below.refl _ _)).below (bl_alloc (bl_alloc (Below.refl _ _) _) _), gb_alloc (gb_alloc (gb_set (gb_refl w c) 11 _) _) _⟩
theorem step_app_lies {P : Program} {w : World} {t e : TypeId} {size bytes : Nat} (T : RowT P t e size bytes) {ops : Array Oper} {o : Oper} {a : Act} {K : Act → World → Prop} {Q : Exit → Act → World → Prop} {E : Prop} (hgd : o.guard = none) (s x : Operand)
   (ho : o.op = .call { callee := .builtin .append, args := #[s, x], argTypes := #[t, t] }) (B : Nat) (v : Value) (n : Nat) (xs : List Value) (hs : a.eval s = v) (hown : w.ownsRow B e size v n xs)
   (ad : Addr) (m c : Nat) (news : List Value) (hx : a.eval x = .slice (some ad) m c) (hl : news.length = m * size) (hnews : ∀ j u, news[j]? = some u → w.cell? (ad.add j) = some u) (h1 : ∀ u ∈ news, u.oneCell' = true)
   (hm : 0 < m) (hn : n + m ≤ 1000000000) (hb : (n + m) * bytes ≤ 140737488355328) (hB : B ≤ w.heap.size)
   (h : ∀ g cap w', w'.ownsRow B e size (.slice (some ⟨g, 0, none⟩) (n + m) cap) (n + m) (xs ++ news) → w.grownBy w' v.ownBlock → (v.ownBlock = some g ∨ g = w.heap.size) → g < w'.heap.size → K (a.put o.dst (.slice (some ⟨g, 0, none⟩) (n + m) cap)) w') :
   if Region.wanted o (yielded ops a.tmps) = true then Oper.wp P o a w K Q else E := by
 obtain ⟨i, z, hi, hz, hsz, hby, hzs⟩ := T.info
 exact step_append_lies w hgd s x t ho B e i z size bytes T.slice hi hz hsz hby hzs T.pos v n xs hs hown ad m c news hx hl hnews h1 hm (by unfold maxLen; omega) hb hB _ rfl h
theorem put_end {W W' w4 : World} {B c lb : Nat} {cl : Nm} {m : MethR} {q : MAddr} {pc : Int} {lo st : List ValR} {v : ValR} {lq sq : HA} {g4 c4 : Nat} (hS : CallAt W B c lb cl m q pc lo st lq sq) (hb : Below W.heap.size W W')
   (ho4 : w4.ownsRow B 42 2 (.slice (some ⟨g4, 0, none⟩) (st.length + 1) c4) (st.length + 1) (valsL st ++ vCells v)) (hg4 : W'.grownBy w4 (hsV st sq).ownBlock) (hl4 : (hsV st sq).ownBlock = some g4 ∨ g4 = W'.heap.size) :
   Blk w4 c 154 (rcArr cl m q pc lo st lq sq) ∧ CallAt (w4.setCell ⟨c, 11, none⟩ (.slice (some ⟨g4, 0, none⟩) (st.length + 1) c4)) B c lb cl m q pc lo (st ++ [v]) lq (some ⟨g4, 0, none⟩, c4) ∧
     KbR c lb (hsV st sq) W (w4.setCell ⟨c, 11, none⟩ (.slice (some ⟨g4, 0, none⟩) (st.length + 1) c4)) ∧ VUp W (hsV st sq) (hsV (st ++ [v]) (some ⟨g4, 0, none⟩, c4)) ∧ ∀ k, k < W.heap.size → (hsV st sq).ownBlock ≠ some k → w4.heap[k]? = W.heap[k]? := by
 have hS' := hS.below hb
 have hsz := hb.size
 have hcs : (hsV st sq).ownBlock ≠ some c := ownv_ne hS.sow hS.blk (by decide)
 have hblk : Blk w4 c 154 (rcArr cl m q pc lo st lq sq) := (hg4.block c hS'.blk.lt (fun e => hcs e.symm)).trans hS'.blk
 have hlo4 : OwnV w4 B lo lq := own_keep2 hS'.low (fun g hg => hg4.block g (hS'.low.lt g hg).2 (fun e => hS.ap g hg e.symm))
 have hap4 : ∀ k, (hsV lo lq).ownBlock = some k → (Value.slice (some ⟨g4, 0, none⟩) (st.length + 1) c4).ownBlock ≠ some k := fun k hk e => by
   simp only [Value.ownBlock, Option.some.injEq] at e
   subst e
   rcases hl4 with h | h
   · exact hS.ap _ hk h
   · have := (hS.low.lt _ hk).2; omega
 have hll : (st ++ [v]).length = st.length + 1 := by simp
 have ho5 : OwnV w4 B (st ++ [v]) (some ⟨g4, 0, none⟩, c4) := by unfold OwnV; rw [hll, valsL_snoc]; exact ho4
 have hn5 : (hsV (st ++ [v]) (some ⟨g4, 0, none⟩, c4)).ownBlock ≠ some c := ownv_ne ho5 hblk (by decide)
 refine ⟨hblk, ⟨?_, own_set hlo4 (ownv_ne hlo4 hblk (by decide)) _, own_set ho5 hn5 _, fun k hk => ?_, hS.lb, hS.cB⟩, ?_, ?_, fun k hk n3 => (hg4.block k (by omega) (fun e => n3 e.symm)).trans (hb.block k hk)⟩
 · have e : rcArr cl m q pc lo (st ++ [v]) lq (some ⟨g4, 0, none⟩, c4) = (rcArr cl m q pc lo st lq sq).setIfInBounds 11 (.slice (some ⟨g4, 0, none⟩) (st.length + 1) c4) := by unfold rcArr; rw [hll]; rfl
   rw [e]
   exact blk_set hblk 11 _
 · have := hap4 k hk
   unfold hsV
   rw [hll]; exact this
 · refine ⟨hg4.os.trans hb.os, hg4.tape.trans hb.tape, hg4.output.trans hb.output, ?_, fun k hk n1 n2 n3 => ?_⟩
   · have h2 := hg4.size
     simp [World.setCell]; omega
   · rw [Below.heap_setCell _ _ _ _ (by exact n1), hg4.block k (by omega) (fun e => n3 e.symm)]
     exact hb.block k hk
 · rcases hl4 with h | h
   · left
     rw [h]; rfl
   · right
     intro k hk
     simp only [hsV, Value.ownBlock, Option.some.injEq] at hk
     omega
def ldStk : Oper := { dst := some 8, op := Op.load 87 (Operand.tmp 7), type := 87, pos := "run.go:56", after := #[{ on := 3, ground := Ground.data }], guard := none }
theorem ldStk_op : ldStk.op = Op.load 87 (Operand.tmp 7) := rfl
theorem ldStk_dst : ldStk.dst = some 8 := rfl
theorem ldStk_guard : ldStk.guard = none := rfl
theorem rput_calls (B c lb : Nat) (cl : Nm) (m : MethR) (q : MAddr) (pc : Int) (lo st : List ValR) (v : ValR) (lq sq : HA) (w : World) (h : CallAt w B c lb cl m q pc lo st lq sq) (hl : st.length ≤ 1000) :
   Calls Tryz.prog 235 #[.pointer (some ⟨c, 0, none⟩), vV v] w fun e w' => e = .returned (.tuple #[]) ∧ ∃ sq', CallAt w' B c lb cl m q pc lo (st ++ [v]) lq sq' ∧ KbR c lb (hsV st sq) w w' ∧ VUp w (hsV st sq) (hsV (st ++ [v]) sq') := by
 obtain ⟨W, hW⟩ : ∃ W, W = w.alloc (.cells #[.int .i64 v.kind, .int .i64 v.n] 42) := ⟨_, rfl⟩
 have hbW : Below w.heap.size w W := by rw [hW]; exact bl_alloc (Below.refl _ _) _
 have HV := Hd (show Blk W w.heap.size 42 #[.int .i64 v.kind, .int .i64 v.n] by rw [hW]; exact blk_new _ _ _ _ rfl)
 have hsW : W.heap.size = w.heap.size + 1 := by rw [hW]; simp
 have HS := Hd (h.below hbW)
 have HBW := Hd hbW
 have hB0 : B ≤ W.heap.size := by have := h.cB; have := h.blk.lt; omega
 have HPE := Hd (fun W' w4 g4 c4 hb ho hg hl => @put_end W W' w4 B c lb cl m q pc lo st v lq sq g4 c4 (h.below hbW) hb ho hg hl)
 have y0 := (h.below hbW).blk.cell 11
 have y1 := (h.below hbW).blk.lt
 have HNC := Hd (fun j u (hj : (vCells v)[j]? = some u) => show (W.alloc (.cells #[.int .i64 v.kind, .int .i64 v.n] 42)).drew.cell? ((⟨W.heap.size, 0, none⟩ : Addr).add j) = some u from by exact new_cells W (vCells v) 42 j u hj)
 have HSC := Hd (fun W' (hw : Below W.heap.size W W') => (show W'.cell? ⟨w.heap.size, 0, none⟩ = some (.int .i64 v.kind) ∧ W'.cell? ⟨w.heap.size, 1, none⟩ = some (.int .i64 v.n) from ⟨(HV.out.below hw).cell 0, (HV.out.below hw).cell 1⟩))
 have HSG := Hd (fun W' (hw : KbR c lb (hsV st sq) W W') (hne : w.heap.size ≠ c ∧ w.heap.size ≠ lb ∧ (hsV st sq).ownBlock ≠ some w.heap.size) => (show W'.cell? ⟨w.heap.size, 0, none⟩ = some (.int .i64 v.kind) ∧ W'.cell? ⟨w.heap.size, 1, none⟩ = some (.int .i64 v.n) from by
   have hh : Blk W' w.heap.size 42 #[.int .i64 v.kind, .int .i64 v.n] := (hw.block _ HV.out.lt hne.1 hne.2.1 hne.2.2).trans HV.out
   exact ⟨hh.cell 0, hh.cell 1⟩))
 have HNE := Hd (show w.heap.size ≠ c ∧ w.heap.size ≠ lb ∧ (hsV st sq).ownBlock ≠ some w.heap.size from ⟨by have := h.blk.lt; omega, by
   rcases h.lb with e | ⟨_, e⟩
   · have := (h.low.lt _ e).2; omega
   · have := h.blk.lt; omega, fun e => by have := (h.sow.lt _ e).2; omega⟩)
 unfold rcArr at y0
 clear h hbW hsW
 unfold vV
 go_enter Tryz.func235, Tryz.ntmps235
 go_upto_region 1 with fail
 rw [← hW]
 clear hW
 rw [show ({ dst := some 8, op := Op.load 87 (Operand.tmp 7), type := 87, pos := "run.go:56", after := #[{ on := 3, ground := Ground.data }], guard := none } : Oper) = ldStk from rfl]
 have q1 := ldStk_op
 have q2 := ldStk_dst
 have q3 := ldStk_guard
 go_region_held3 (fun W' => W'.cell? ⟨w.heap.size, 0, none⟩ = some (.int .i64 v.kind) ∧ W'.cell? ⟨w.heap.size, 1, none⟩ = some (.int .i64 v.n))
   (first | exact HSC.out _ (Below.refl _ _) | exact HSC.out _ (Below.refl _ _).drew | exact HSC.out _ (bl_alloc (Below.refl _ _) _) | exact HSC.out _ (bl_alloc (Below.refl _ _) _).drew | exact HSC.out _ (bl_alloc (Below.refl _ _).drew _) | exact hs4 | exact HSG.out _ hp.2.2.1 HNE.out)
   ((first
   | (refine step_app_lies rowVal rfl (.tmp 8) (.tmp 10) rfl B _ st.length (valsL st) rfl ?_ ⟨_, 0, none⟩ 1 1 (vCells v) rfl rfl ?_ (vCells_one v) (by omega) ?_ ?_ ?_ ?_
      · first | exact HS.out.sow.alloc _ | exact (HS.out.sow.alloc _).drew
      · exact HNC.out
      · omega
      · omega
      · first | (simp; omega) | omega
      intro g4 c4 w4 ho4 hg4 hl4 _
      have hp := HPE.out _ w4 g4 c4 (by first | exact (bl_alloc (Below.refl _ _) _) | exact (bl_alloc (Below.refl _ _) _).drew) ho4 hg4 hl4
      have hh4 : Blk w4 w.heap.size 42 #[.int .i64 v.kind, .int .i64 v.n] := (hp.2.2.2.2 _ HV.out.lt HNE.out.2.2).trans HV.out
      have hs4 : w4.cell? ⟨w.heap.size, 0, none⟩ = some (.int .i64 v.kind) ∧ w4.cell? ⟨w.heap.size, 1, none⟩ = some (.int .i64 v.n) := ⟨hh4.cell 0, hh4.cell 1⟩
      have z0 := hp.1.cell 11
      have z1 := hp.1.frozen 11
      have z2 := hp.1.lt
      unfold rcArr at z0)))
 all_goals
   have HR := Hd hp.2.1
   have HKB := Hd (show KbR c lb (hsV st sq) w (w4.setCell ⟨c, 11, none⟩ (.slice (some ⟨g4, 0, none⟩) (st.length + 1) c4)) from (KbR.of_below HBW.out).trans hp.2.2.1 (VUp.refl _ _))
   have HUP := Hd (show VUp w (hsV st sq) (hsV (st ++ [v]) (some ⟨g4, 0, none⟩, c4)) from by
     rcases hp.2.2.2.1 with h | h
     · exact Or.inl h
     · exact Or.inr (fun k hk => Nat.le_trans HBW.out.size (h k hk)))
   clear q1 q2 q3 hp hs4 hh4 ho4 hg4 hl4 z0 z1 z2 y0 y1
   go_wp2_with fail
   go_end0
   exact ⟨rfl, _, HR.out, HKB.out, HUP.out⟩
def macArr (b : Nat) (hv cv : Value) (tk tn : Int) (th : Nm) (s : Int) (ov : Bool) : Array Value :=
 #[.map (some b), hv, cv, .int .i64 tk, .int .i64 tn, .string ⟨⟨th⟩⟩, .int .i64 s, .bool ov]
theorem leave_calls (K b cs cc : Nat) (hv : Value) (s : Int) (v : ValR) (w : World) (hK : Blk w K 104 (macArr b hv (.slice (some ⟨cs, 0, none⟩) 1 cc) 0 0 [] s false)) :
   Calls Tryz.prog 149 #[.pointer (some ⟨K, 0, none⟩), vV v] w fun e w' => e = .returned (.tuple #[]) ∧ Blk w' K 104 (macArr b hv (.slice (some ⟨cs, 0, none⟩) 0 cc) v.kind v.n [] s true) ∧ w.grownBy w' (some K) := by
 obtain ⟨W, hW⟩ : ∃ W, W = w.alloc (.cells #[.int .i64 v.kind, .int .i64 v.n] 42) := ⟨_, rfl⟩
 have hbW : Below w.heap.size w W := by rw [hW]; exact bl_alloc (Below.refl _ _) _
 have HV := Hd (show Blk W w.heap.size 42 #[.int .i64 v.kind, .int .i64 v.n] by rw [hW]; exact blk_new _ _ _ _ rfl)
 have HK := Hd (hK.below hbW)
 have hne : w.heap.size ≠ K := by have := hK.lt; omega
 have hKl := hK.lt
 have HBW := Hd hbW
 have k0 := HK.out.cell 2
 have k1 := HK.out.frozen 2
 have k2 := HK.out.lt
 unfold macArr at k0
 clear hbW
 unfold vV
 go_enter Tryz.func149, Tryz.ntmps149
 go_upto_region 1 with fail
 rw [← hW]
 clear hW
 go_region
 obtain ⟨W1, hW1⟩ : ∃ W1, W1 = W.setCell ⟨K, 2, none⟩ (.slice (some ⟨cs, 0, none⟩) 0 cc) := ⟨_, rfl⟩
 have HK1 := Hd (show Blk W1 K 104 (macArr b hv (.slice (some ⟨cs, 0, none⟩) 0 cc) 0 0 [] s false) by rw [hW1]; exact blk_set HK.out 2 _)
 have HV1 := Hd (show Blk W1 w.heap.size 42 #[.int .i64 v.kind, .int .i64 v.n] by rw [hW1]; exact blk_apart HV.out hne _)
 have HG1 := Hd (show w.grownBy W1 (some K) by rw [hW1]; exact gb_set (gb_below (gb_refl w K) HBW.out) 2 _)
 rw [← hW1]
 clear hW1 k0 k1 k2
 have k0 := HK1.out.cell 2
 have k2 := HK1.out.lt
 have k3 := HK1.out.cell 3
 have k4 := HK1.out.cell 4
 have k5 := HK1.out.cell 7
 have k6 := HK1.out.frozen 3
 have k7 := HK1.out.frozen 4
 have k8 := HK1.out.frozen 7
 have v0 := HV1.out.cell 0
 have v1 := HV1.out.cell 1
 have v2 := HV1.out.lt
 unfold macArr at k0 k3 k4 k5
 go_wp2_with fail
 exact bodyPost_ret (v := .tuple #[]) (by simp [results, Tryz.results149, go_sem]) rfl ⟨rfl, Blk.drew (show Blk _ K 104 (macArr b hv (.slice (some ⟨cs, 0, none⟩) 0 cc) v.kind v.n [] s true) from blk_set (blk_set (blk_set HK1.out 3 _) 4 _) 7 _), gb_drew (gb_set (gb_set (gb_set HG1.out 3 _) 4 _) 7 _)⟩
theorem run_copy_rows {P : Program} (w : World) (dT sT ty elem : TypeId) (g o dLen dCap : Nat) (a : Addr) (sLen sCap k : Nat) (cur : Array Value) (t : TypeId) (cs : List Value)
   (hu : P.underlying dT = some (.slice elem)) (hs : (P.info? elem).map (·.size) = some k)
   (hg : w.heap[g]? = some (.cells cur t (0, 0))) (hn : cs.length = Nat.min sLen dLen * k)
   (hsrc : ∀ j v, cs[j]? = some v → w.cell? (a.add j) = some v) (hfit : o + cs.length ≤ cur.size) (h1 : ∀ v ∈ cs, v.oneCell' = true) :
   (Builtin.copy_ #[dT, sT] ty #[.slice (some ⟨g, o, none⟩) dLen dCap, .slice (some a) sLen sCap]).run P w =
     .ok (goInt (Nat.min sLen dLen)) (w.setRow g (cur.toList.take o ++ cs ++ cur.toList.drop (o + cs.length)).toArray) := by
 have hl := run_loadCells_list (P := P) w a cs hsrc
 have hst := run_storeCells_at P g o t cs 0 cur w hg (by simpa using hfit) h1
 cases hq : P.info? elem with
 | none => simp [hq] at hs
 | some i =>
   have hi : i.size = k := by simpa [hq] using hs
   simp [Builtin.copy_, run_underlying hu, Builtin.lenOf, Builtin.firstCells, sizeOf, typeInfo, hq, hi, ← hn, hl, hst]
theorem flat_atR : ∀ (L : List (List Value)) (size j : Nat) (u : Value), 0 < size → (∀ c ∈ L, c.length = size) → L.flatten[j]? = some u → ∃ cs, L[j / size]? = some cs ∧ cs[j % size]? = some u
 | [], _, j, u, _, _, h => by simp at h
 | c :: L, size, j, u, hs, hl, h => by
   have hc := hl c (by simp)
   simp only [List.flatten_cons] at h
   by_cases hj : j < size
   · rw [List.getElem?_append_left (by omega)] at h
     exact ⟨c, by rw [Nat.div_eq_of_lt hj]; rfl, by rw [Nat.mod_eq_of_lt hj]; exact h⟩
   · rw [List.getElem?_append_right (by omega), hc] at h
     obtain ⟨cs, h1, h2⟩ := flat_atR L size (j - size) u hs (fun x hx => hl x (by simp [hx])) h
     refine ⟨cs, ?_, ?_⟩
     · rw [Nat.div_eq_sub_div hs (by omega)]; simpa using h1
     · rw [Nat.mod_eq_sub_mod (by omega)]; exact h2
def padL (args : List ValR) (n : Nat) : List ValR := args ++ List.replicate (n - args.length) ⟨0, 0⟩
theorem padL_len {args : List ValR} {n : Nat} (h : args.length ≤ n) : (padL args n).length = n := by simp [padL]; omega
theorem valsL_app (a b : List ValR) : valsL (a ++ b) = valsL a ++ valsL b := by simp [valsL]
theorem copy_args (w : World) (g n : Nat) (args : List ValR) (aq : HA) (hg : Blk w g 42 (valsL (List.replicate n ⟨0, 0⟩)).toArray) (ha : HasAt w args aq) (hl : args.length ≤ n) (h0 : args ≠ [] ∨ aq = (none, 0)) :
   ∃ w', (Builtin.copy_ #[87, 87] 3 #[.slice (some ⟨g, 0, none⟩) n n, .slice aq.1 args.length aq.2]).run Tryz.prog w = .ok (goInt args.length) w' ∧ Blk w' g 42 (valsL (padL args n)).toArray ∧ w.grownBy w' (some g) := by
 by_cases he : args = []
 · rcases h0 with h0 | h0
   · exact absurd he h0
   · subst he
     rw [h0]
     refine ⟨w, ?_, ?_, gb_refl _ _⟩
     · exact run_copy_nil (P := Tryz.prog) w 87 87 3 42 ⟨g, 0, none⟩ n n Tryz.underlying87 (by kernel_rfl)
     · simpa [padL] using hg
 · obtain ⟨v, hv⟩ : ∃ v, args[0]? = some v := ⟨_, List.getElem?_eq_getElem (List.length_pos_iff.2 he)⟩
   obtain ⟨b, off, hq, _, _, _⟩ := ha.cells hv
   have hlen := valsL_len args
   have hsrc : ∀ j u, (valsL args)[j]? = some u → w.cell? ((⟨b, off, none⟩ : Addr).add j) = some u := fun j u hj => by
     have e : (⟨b, off, none⟩ : Addr).add j = ⟨b, off + j, none⟩ := by unfold Addr.add; split <;> simp_all
     rw [e]
     obtain ⟨cs, h3, h4⟩ := flat_atR (args.map vCells) 2 j u (by decide) (by intro c hc; obtain ⟨x, _, rfl⟩ := List.mem_map.1 hc; rfl) hj
     rw [List.getElem?_map] at h3
     obtain ⟨x, hx, rfl⟩ := Option.map_eq_some_iff.1 h3
     obtain ⟨b2, off2, hq2, _, k0, k1⟩ := ha.cells hx
     rw [hq] at hq2
     simp only [Option.some.injEq, Addr.mk.injEq, and_true] at hq2
     obtain ⟨rfl, rfl⟩ := hq2
     have hm : j % 2 < 2 := Nat.mod_lt _ (by decide)
     have hd : j = j / 2 * 2 + j % 2 := by omega
     generalize j / 2 = d at *
     generalize j % 2 = r at *
     subst hd
     match r, hm, h4 with
     | 0, _, h4 => simp [vCells] at h4; rw [← h4]; exact k0
     | 1, _, h4 => simp [vCells] at h4; rw [← h4, show off + (d * 2 + 1) = off + d * 2 + 1 by omega]; exact k1
   have hmin : Nat.min args.length n = args.length := Nat.min_eq_left hl
   have hsz := valsL_len (List.replicate n ⟨0, 0⟩)
   rw [List.length_replicate] at hsz
   have hr := run_copy_rows (P := Tryz.prog) w 87 87 3 42 g 0 n n ⟨b, off, none⟩ args.length aq.2 2 _ 42 (valsL args) Tryz.underlying87 (by kernel_rfl) hg (by rw [hmin]; exact hlen) hsrc (by simp; omega) (valsL_one args)
   rw [hmin] at hr
   rw [hq]
   refine ⟨_, hr, ?_, setRow_grown _ _ _⟩
   have := setRow_heap w g (valsL (List.replicate n ⟨0, 0⟩)).toArray ((valsL (List.replicate n ⟨0, 0⟩)).toArray.toList.take 0 ++ valsL args ++ (valsL (List.replicate n ⟨0, 0⟩)).toArray.toList.drop (0 + (valsL args).length)).toArray 42 (0, 0) hg
   have e2 : (valsL (List.replicate n (⟨0, 0⟩ : ValR))).drop (0 + (valsL args).length) = valsL (List.replicate (n - args.length) ⟨0, 0⟩) := by
     have : List.replicate n (⟨0, 0⟩ : ValR) = List.replicate args.length ⟨0, 0⟩ ++ List.replicate (n - args.length) ⟨0, 0⟩ := by rw [List.replicate_append_replicate, show args.length + (n - args.length) = n by omega]
     rw [this, valsL_app, List.drop_append_of_le_length (by simp only [valsL_len, List.length_replicate]; omega), List.drop_eq_nil_of_le (by simp only [valsL_len, List.length_replicate]; omega)]
     rfl
   have e3 : (valsL (List.replicate n (⟨0, 0⟩ : ValR))).take 0 ++ valsL args ++ (valsL (List.replicate n (⟨0, 0⟩ : ValR))).drop (0 + (valsL args).length) = valsL (padL args n) := by rw [e2, List.take_zero, List.nil_append, padL, valsL_app]
   have e4 : ((valsL (List.replicate n ⟨0, 0⟩)).toArray.toList.take 0 ++ valsL args ++ (valsL (List.replicate n ⟨0, 0⟩)).toArray.toList.drop (0 + (valsL args).length)).toArray = (valsL (padL args n)).toArray := by rw [← e3]
   rw [e4] at this ⊢
   exact this
theorem rowCall : RowT Tryz.prog 102 152 1 8 := RowT.mk' (z := .pointer none) Tryz.underlying102 (by kernel_rfl) rfl (by decide)
def ldCal : Oper := { dst := some 27, op := Op.load 102 (Operand.tmp 26), type := 102, pos := "run.go:78", after := #[{ on := 3, ground := Ground.data }], guard := none }
theorem ldCal_op : ldCal.op = Op.load 102 (Operand.tmp 26) := rfl
theorem ldCal_dst : ldCal.dst = some 27 := rfl
theorem ldCal_guard : ldCal.guard = none := rfl
theorem enter_calls (K b : Nat) (hv : Value) (s : Int) (cl : Nm) (m : MethR) (q : MAddr) (n : Nat) (args : List ValR) (aq : HA) (w : World) (hK : Blk w K 104 (macArr b hv (.slice none 0 0) 0 0 [] s false)) (hn : m.loc = n) (hn8 : n ≤ 8) (ha : HasAt w args aq) (hl : args.length ≤ n) (h0 : args ≠ [] ∨ aq = (none, 0)) :
   Calls Tryz.prog 37 #[.pointer (some ⟨K, 0, none⟩), .string ⟨⟨cl⟩⟩, methV m q, .slice aq.1 args.length aq.2] w fun e w' => e = .returned (.tuple #[]) ∧ ∃ c cs cc, Blk w' K 104 (macArr b hv (.slice (some ⟨cs, 0, none⟩) 1 cc) 0 0 [] s false) ∧
     w'.ownsRow w.heap.size 152 1 (.slice (some ⟨cs, 0, none⟩) 1 cc) 1 [.pointer (some ⟨c, 0, none⟩)] ∧ CallAt w' w.heap.size c (w.heap.size + 1) cl m q 0 (padL args n) [] (some ⟨w.heap.size + 1, 0, none⟩, n) (none, 0) ∧ w.grownBy w' (some K) := by
 obtain ⟨W, hW⟩ : ∃ W, W = w.alloc (.cells (mArr m q) 39) := ⟨_, rfl⟩
 have hbW : Below w.heap.size w W := by rw [hW]; exact bl_alloc (Below.refl _ _) _
 have HM := Hd (show Blk W w.heap.size 39 (mArr m q) by rw [hW]; exact blk_new _ _ _ _ rfl)
 have hsW : W.heap.size = w.heap.size + 1 := by rw [hW]; simp
 have HK := Hd (hK.below hbW)
 obtain ⟨F, hF⟩ := made_vals n (by omega)
 obtain ⟨hF1, hF2, hF3⟩ := hF W
 obtain ⟨W2, hW2⟩ : ∃ W2, W2 = F W := ⟨_, rfl⟩
 rw [← hW2] at hF1 hF2 hF3
 have hb12 : Below W.heap.size W W2 := ⟨hF3.os, hF3.tape, hF3.output, hF3.size, fun k hk => hF3.block k hk (by simp)⟩
 obtain ⟨W3, hC1, hC2, hC3⟩ := copy_args W2 W.heap.size n args aq hF2 (ha.below (bl_trans hbW hb12)) hl h0
 have HK3 := Hd (gb_blk hC3 (HK.out.below hb12) (by have := hK.lt; omega))
 have HM3 := Hd (gb_blk hC3 (HM.out.below hb12) (by omega))
 have HL3 := Hd hC2
 have HG3 := Hd (show Below w.heap.size w W3 from gb_to_below (bl_trans hbW hb12) hC3 (by omega))
 have e0 := HK.out.cell 2
 have e1 := HK.out.lt
 have m5 := HM.out.cell 5
 have m9 := HM.out.lt
 unfold macArr at e0
 unfold mArr at m5
 rw [hn] at m5
 unfold methV
 have HN := Hd hn
 have HSW := Hd hsW
 have HKM := Hd (show w.heap.size ≠ K by have := hK.lt; omega)
 have HPL := Hd (padL_len hl)
 clear hsW
 clear hK hbW ha hl h0 hF hF2 hF3 hW2 hb12 hC2 hC3 hn
 go_enter Tryz.func37, Tryz.ntmps37
 go_upto_region 1 with fail
 have hmA : mArr m q = #[.string ⟨⟨m.nm⟩⟩, .string ⟨⟨m.ty⟩⟩, .bool m.stat, .bool m.abst, .bool m.priv, .int .i64 m.loc, .slice q.ca m.code.length q.cc, .slice q.ha m.hs.length q.hc] := rfl
 rw [← hmA, ← hW]
 clear hW hmA
 go_upto_region 5 with fail
 clear hF1 hC1 e0 e1 m5 m9
 have HSC := Hd (fun W' (hw : Below W3.heap.size W3 W') => (show W'.cell? ⟨w.heap.size, 0, none⟩ = some (.string ⟨⟨m.nm⟩⟩) ∧ W'.cell? ⟨w.heap.size, 1, none⟩ = some (.string ⟨⟨m.ty⟩⟩) ∧ W'.cell? ⟨w.heap.size, 2, none⟩ = some (.bool m.stat) ∧ W'.cell? ⟨w.heap.size, 3, none⟩ = some (.bool m.abst) ∧ W'.cell? ⟨w.heap.size, 4, none⟩ = some (.bool m.priv) ∧ W'.cell? ⟨w.heap.size, 5, none⟩ = some (.int .i64 m.loc) ∧ W'.cell? ⟨w.heap.size, 6, none⟩ = some (.slice q.ca m.code.length q.cc) ∧ W'.cell? ⟨w.heap.size, 7, none⟩ = some (.slice q.ha m.hs.length q.hc) from
   have h := HM3.out.below hw
   ⟨h.cell 0, h.cell 1, h.cell 2, h.cell 3, h.cell 4, h.cell 5, h.cell 6, h.cell 7⟩))
 have e0 := HK3.out.cell 2
 have e1 := HK3.out.lt
 unfold macArr at e0
 have hKM : w.heap.size ≠ K := HKM.out
 have HSD := Hd (fun W' (u : Value) (hw : Below W3.heap.size W3 W') => (show (W'.setCell ⟨K, 2, none⟩ u).cell? ⟨w.heap.size, 0, none⟩ = some (.string ⟨⟨m.nm⟩⟩) ∧ (W'.setCell ⟨K, 2, none⟩ u).cell? ⟨w.heap.size, 1, none⟩ = some (.string ⟨⟨m.ty⟩⟩) ∧ (W'.setCell ⟨K, 2, none⟩ u).cell? ⟨w.heap.size, 2, none⟩ = some (.bool m.stat) ∧ (W'.setCell ⟨K, 2, none⟩ u).cell? ⟨w.heap.size, 3, none⟩ = some (.bool m.abst) ∧ (W'.setCell ⟨K, 2, none⟩ u).cell? ⟨w.heap.size, 4, none⟩ = some (.bool m.priv) ∧ (W'.setCell ⟨K, 2, none⟩ u).cell? ⟨w.heap.size, 5, none⟩ = some (.int .i64 m.loc) ∧ (W'.setCell ⟨K, 2, none⟩ u).cell? ⟨w.heap.size, 6, none⟩ = some (.slice q.ca m.code.length q.cc) ∧ (W'.setCell ⟨K, 2, none⟩ u).cell? ⟨w.heap.size, 7, none⟩ = some (.slice q.ha m.hs.length q.hc) from
   have h := blk_apart (j := 2) (HM3.out.below hw) hKM u
   ⟨h.cell 0, h.cell 1, h.cell 2, h.cell 3, h.cell 4, h.cell 5, h.cell 6, h.cell 7⟩))
 have HCB := Hd (show Blk ((W3.alloc (.cells #[.string ⟨⟨cl⟩⟩, .string ⟨⟨m.nm⟩⟩, .string ⟨⟨m.ty⟩⟩, .bool m.stat, .bool m.abst, .bool m.priv, .int .i64 m.loc, .slice q.ca m.code.length q.cc, .slice q.ha m.hs.length q.hc, .int .i64 0, .slice (some ⟨W.heap.size, 0, none⟩) n n, .slice none 0 0] 154)).alloc (.cells #[.pointer (some ⟨W3.heap.size, 0, none⟩)] 152)) W3.heap.size 154 (rcArr cl m q 0 (padL args n) [] (some ⟨W.heap.size, 0, none⟩, n) (none, 0)) from by
   unfold rcArr
   rw [HPL.out]
   exact (blk_new _ _ _ _ rfl).alloc _)
 have HNC1 := Hd (fun (j : Nat) (u : Value) (hj : ([Value.pointer (some ⟨W3.heap.size, 0, none⟩)] : List Value)[j]? = some u) => show ((W3.alloc (.cells #[.string ⟨⟨cl⟩⟩, .string ⟨⟨m.nm⟩⟩, .string ⟨⟨m.ty⟩⟩, .bool m.stat, .bool m.abst, .bool m.priv, .int .i64 m.loc, .slice q.ca m.code.length q.cc, .slice q.ha m.hs.length q.hc, .int .i64 0, .slice (some ⟨W.heap.size, 0, none⟩) n n, .slice none 0 0] 154)).alloc (.cells #[.pointer (some ⟨W3.heap.size, 0, none⟩)] 152)).cell? ((⟨W3.heap.size + 1, 0, none⟩ : Addr).add j) = some u from by
   have h := new_cells (W3.alloc (.cells #[.string ⟨⟨cl⟩⟩, .string ⟨⟨m.nm⟩⟩, .string ⟨⟨m.ty⟩⟩, .bool m.stat, .bool m.abst, .bool m.priv, .int .i64 m.loc, .slice q.ca m.code.length q.cc, .slice q.ha m.hs.length q.hc, .int .i64 0, .slice (some ⟨W.heap.size, 0, none⟩) n n, .slice none 0 0] 154)) [.pointer (some ⟨W3.heap.size, 0, none⟩)] 152 j u hj
   simpa using h)
 have HNC := Hd (fun (Wb : World) (g : Nat) (j : Nat) (u : Value) (hj : ([Value.pointer (some ⟨g, 0, none⟩)] : List Value)[j]? = some u) => show (Wb.alloc (.cells #[.pointer (some ⟨g, 0, none⟩)] 152)).cell? ((⟨Wb.heap.size, 0, none⟩ : Addr).add j) = some u from new_cells Wb [.pointer (some ⟨g, 0, none⟩)] 152 j u hj)
 rw [show ({ dst := some 27, op := Op.load 102 (Operand.tmp 26), type := 102, pos := "run.go:78", after := #[{ on := 3, ground := Ground.data }], guard := none } : Oper) = ldCal from rfl]
 have q1 := ldCal_op
 have q2 := ldCal_dst
 have q3 := ldCal_guard
 go_region_held3 (fun W' => W'.cell? ⟨w.heap.size, 0, none⟩ = some (.string ⟨⟨m.nm⟩⟩) ∧ W'.cell? ⟨w.heap.size, 1, none⟩ = some (.string ⟨⟨m.ty⟩⟩) ∧ W'.cell? ⟨w.heap.size, 2, none⟩ = some (.bool m.stat) ∧ W'.cell? ⟨w.heap.size, 3, none⟩ = some (.bool m.abst) ∧ W'.cell? ⟨w.heap.size, 4, none⟩ = some (.bool m.priv) ∧ W'.cell? ⟨w.heap.size, 5, none⟩ = some (.int .i64 m.loc) ∧ W'.cell? ⟨w.heap.size, 6, none⟩ = some (.slice q.ca m.code.length q.cc) ∧ W'.cell? ⟨w.heap.size, 7, none⟩ = some (.slice q.ha m.hs.length q.hc))
   (first | exact HSC.out _ (Below.refl _ _) | exact HSC.out _ (Below.refl _ _).drew | exact HSC.out _ (bl_alloc (Below.refl _ _) _) | exact HSC.out _ (bl_alloc (Below.refl _ _) _).drew | exact HSC.out _ (bl_alloc (Below.refl _ _).drew _) | exact HSC.out _ (bl_alloc (bl_alloc (Below.refl _ _) _) _) | exact HSC.out _ (bl_alloc (bl_alloc (Below.refl _ _) _) _).drew | exact hs4 | exact hs5)
   ((first
   | (refine step_app_lies rowCall rfl (.tmp 27) (.tmp 33) rfl W3.heap.size (.slice none 0 0) 0 [] rfl ⟨rfl, Or.inl ⟨rfl, rfl⟩⟩ ⟨_, 0, none⟩ 1 1 [.pointer (some ⟨W3.heap.size, 0, none⟩)] rfl rfl ?_ ?_ (by omega) (by omega) (by omega) ?_ ?_
      · first | exact HNC1.out | (intro j u hj; exact HNC1.out j u hj)
      · intro u hu
        rw [List.mem_singleton.1 hu]; rfl
      · simp; omega
      intro g6 c6 w6 ho6 hg6 hl6 _
      have hb6 : Below W3.heap.size W3 w6 := by
        first
        | exact (bl_alloc (bl_alloc (Below.refl _ _) _) _).trans ⟨hg6.os, hg6.tape, hg6.output, hg6.size, fun k hk => hg6.block k (by simp; omega) (by simp [Value.ownBlock])⟩
        | exact (bl_alloc (bl_alloc (Below.refl _ _) _) _).drew.trans ⟨hg6.os, hg6.tape, hg6.output, hg6.size, fun k hk => hg6.block k (by simp; omega) (by simp [Value.ownBlock])⟩
      have hc6 : Blk w6 W3.heap.size 154 (rcArr cl m q 0 (padL args n) [] (some ⟨W.heap.size, 0, none⟩, n) (none, 0)) := (hg6.block W3.heap.size (by simp; omega) (by simp [Value.ownBlock])).trans HCB.out
      have hs4 := HSC.out _ hb6
      have hs5 := HSD.out _ (.slice (some ⟨g6, 0, none⟩) 1 c6) hb6
      have z0 := (HK3.out.below hb6).cell 2
      have z1 := (HK3.out.below hb6).frozen 2
      have z2 := (HK3.out.below hb6).lt
      unfold macArr at z0)))
 all_goals
   have HK6 := Hd (HK3.out.below hb6)
   have HC6 := Hd hc6
   have HL6 := Hd (HL3.out.below hb6)
   have hgK : g6 ≠ K := fun e => by
     have h1 := HK3.out.lt
     rcases hl6 with h | h
     · simp [Value.ownBlock] at h
     · simp at h; omega
   have hcK : W3.heap.size ≠ K := by have h1 := HK3.out.lt; omega
   have hlK : W.heap.size ≠ K := by have h1 := HK.out.lt; omega
   have HR := Hd (show (w6.setCell ⟨K, 2, none⟩ (.slice (some ⟨g6, 0, none⟩) 1 c6)).ownsRow w.heap.size 152 1 (.slice (some ⟨g6, 0, none⟩) 1 c6) 1 [.pointer (some ⟨W3.heap.size, 0, none⟩)] from
     own_set (own_down ho6 HG3.out.size) (by simp only [Value.ownBlock]; intro e; exact hgK (by simpa using e)) _)
   have HCA := Hd (show CallAt (w6.setCell ⟨K, 2, none⟩ (.slice (some ⟨g6, 0, none⟩) 1 c6)) w.heap.size W3.heap.size (w.heap.size + 1) cl m q 0 (padL args n) [] (some ⟨w.heap.size + 1, 0, none⟩, n) (none, 0) from by
     rw [← HSW.out]
     refine ⟨blk_apart HC6.out hcK _, ?_, ⟨rfl, Or.inl ⟨rfl, rfl⟩⟩, fun k _ e => (by cases e), Or.inl rfl, HG3.out.size⟩
     have hl6' := blk_apart (j := 2) HL6.out hlK (.slice (some ⟨g6, 0, none⟩) 1 c6)
     have hpl := HPL.out
     have hvl := valsL_len (padL args n)
     unfold OwnV
     rw [hpl] at hvl ⊢
     exact ⟨hvl, Or.inr ⟨W.heap.size, n, _, rfl, by have := HSW.out; omega, hl6', Nat.le_refl _, by unfold maxLen; omega, by rw [List.size_toArray]; exact hvl, List.take_of_length_le (by show (valsL (padL args n)).length ≤ _; omega)⟩⟩)
   have HB6 := Hd (blk_set HK6.out 2 (.slice (some ⟨g6, 0, none⟩) 1 c6))
   have HG6 := Hd (gb_set (gb_below (gb_refl w K) (bl_trans HG3.out hb6)) 2 (.slice (some ⟨g6, 0, none⟩) 1 c6))
   clear q1 q2 q3 hs4 hs5 hb6 hc6 z0 z1 z2 ho6 hg6 hl6 e0
   go_wp2_with fail
   go_end0
   exact ⟨rfl, W3.heap.size, g6, c6, HB6.out, HR.out, HCA.out, HG6.out⟩
end Go.Proofs.YtfimajijegohmaaGreatDoor
