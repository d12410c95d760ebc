import Derived.Test.YtbnkckjdgpiggaaGreatDoorRa
import Derived.Test.YtbnkckjdgpiggaaGreatDoorCx
namespace Go.Proofs.YtbnkckjdgpiggaaGreatDoor
set_option maxRecDepth 100000
set_option maxHeartbeats 16000000
set_option linter.unusedVariables false
set_option linter.unusedSimpArgs false
open Go.RowKit Go.Shelf Go.Lib
def zea (cl : Nm) (m : zo) (q : zaf) (pc : Int) (lo st : List zbz) (lq sq : HA) : Array Value :=
 #[.string ⟨⟨cl⟩⟩, .string ⟨⟨m.nm⟩⟩, .string ⟨⟨m.ty⟩⟩, .bool m.stat, .bool m.abst, .bool m.priv, .int .i64 m.loc, .slice q.ca m.code.length q.cc, .slice q.ha m.hs.length q.hc, .int .i64 pc, .slice lq.1 lo.length lq.2, .slice sq.1 st.length sq.2]
abbrev hsV (l : List zbz) (q : HA) : Value := .slice q.1 l.length q.2
structure za0 (w : World) (B c lb : Nat) (cl : Nm) (m : zo) (q : zaf) (pc : Int) (lo st : List zbz) (lq sq : HA) : Prop where
 blk : Blk w c 116 (zea cl m q pc lo st lq sq)
 low : zoz w B lo lq
 sow : zoz w B st sq
 ap : ∀ k, (hsV lo lq).ownBlock = some k -> (hsV st sq).ownBlock ≠ some k
 lb : (hsV lo lq).ownBlock = some lb \/ ((hsV lo lq).ownBlock = none /\ lb = c)
 cB : B <= c
theorem zgk {w : World} {K g j : Nat} {T : TypeId} {cs : Array Value} (h : Blk w K T cs) (hne : K ≠ g) (u : Value) : Blk (w.setCell ⟨g, j, none⟩ u) K T cs := zac (zai (zp w g) j u) h hne
theorem zfd {w : World} {B c : Nat} {l : List zbz} {q : HA} {T : TypeId} {cs : Array Value} (ho : zoz w B l q) (hb : Blk w c T cs) (hT : T ≠ 54) : (hsV l q).ownBlock ≠ some c := by
 intro hv
 rcases ho.2 with ⟨h0, _⟩ | ⟨g2, _, _, h0, _, hg2, _⟩
 . have : (hsV l q) = .slice none 0 0 := h0
   rw [this] at hv; cases hv
 . have : (hsV l q) = .slice (some ⟨g2, 0, none⟩) _ _ := h0
   rw [this] at hv
   simp only [Value.ownBlock, Option.some.injEq] at hv
   subst hv
   rw [show w.heap[g2]? = some (.cells _ _ (0, 0)) from hb] at hg2
   simp at hg2
   exact hT hg2.2
theorem za0.below {w w' : World} {B c lb : Nat} {cl : Nm} {m : zo} {q : zaf} {pc : Int} {lo st : List zbz} {lq sq : HA} (h : za0 w B c lb cl m q pc lo st lq sq) (hb : Below w.heap.size w w') : za0 w' B c lb cl m q pc lo st lq sq :=
 ⟨h.blk.below hb, zad h.low hb, zad h.sow hb, h.ap, h.lb, h.cB⟩
theorem za0.drew {w : World} {B c lb : Nat} {cl : Nm} {m : zo} {q : zaf} {pc : Int} {lo st : List zbz} {lq sq : HA} (h : za0 w B c lb cl m q pc lo st lq sq) : za0 w.drew B c lb cl m q pc lo st lq sq := h.below (Below.refl _ _).drew
theorem zny (l : List zbz) (v : zbz) : zbs (l ++ [v]) = zbs l ++ zdh v := by simp [zbs]
theorem zyf {w : World} {B : Nat} {l : List zbz} {v : zbz} {q : HA} (h : zoz w B (l ++ [v]) q) : zoz w B l q := by
 unfold zoz at h |-
 rw [zny] at h
 have hl := zfn l
 refine ⟨hl, ?_⟩
 rcases h.2 with ⟨h0, h1⟩ | ⟨g, cap', cur, hv, hB, hg, hle, hmx, hsz, htk⟩
 . simp at h1
 . simp only [Value.slice.injEq] at hv
   obtain ⟨h1, _, rfl⟩ := hv
   refine Or.inr ⟨g, q.2, cur, by rw [h1], hB, hg, by simp at hle; omega, hmx, hsz, ?_⟩
   have := congrArg (List.take (l.length * 2)) htk
   rw [List.take_take, Nat.min_eq_left (by rw [List.length_append]; omega), List.take_append_of_le_length (by omega), List.take_of_length_le (l := zbs l) (by omega)] at this
   exact this
theorem z0s {w : World} {B : Nat} {l : List zbz} {q : HA} (h : zoz w B l q) {j : Nat} {v : zbz} (hj : l[j]? = some v) : ∃ g, q.1 = some ⟨g, 0, none⟩ /\ g < w.heap.size /\ B <= g /\ w.cell? ⟨g, j * 2, none⟩ = some (.int .i64 v.kind) /\ w.cell? ⟨g, j * 2 + 1, none⟩ = some (.int .i64 v.n) /\ w.frozen? ⟨g, j * 2, none⟩ = false /\ w.frozen? ⟨g, j * 2 + 1, none⟩ = false /\ l.length <= q.2 := by
 have hh := h.at
 obtain ⟨b, off, h1, h2, h3, h4⟩ := hh.cells hj
 unfold zoz at h
 rcases h.2 with ⟨h0, h5⟩ | ⟨g, cap', cur, hv, hB, hg, hle, _⟩
 . have := List.eq_nil_of_length_eq_zero h5
   subst this; simp at hj
 . simp only [Value.slice.injEq] at hv
   obtain ⟨h6, _, rfl⟩ := hv
   rw [h6] at h1
   simp only [Option.some.injEq, Addr.mk.injEq, and_true] at h1
   obtain ⟨rfl, rfl⟩ := h1
   rw [Nat.zero_add] at h3 h4
   exact ⟨g, h6, h2, hB, h3, h4, by simp [World.frozen?, hg], by simp [World.frozen?, hg], hle⟩
structure CRes (w w' : World) (B c lb : Nat) (cl : Nm) (m : zo) (q : zaf) (pc : Int) (lo st' : List zbz) (lq sq sq' : HA) (v v' : Value) : Prop where
 at_ : za0 w' B c lb cl m q pc lo st' lq sq'
 kb : KbR c lb v w w'
 up : VUp w v v'
theorem zhe (B c lb : Nat) (cl : Nm) (m : zo) (q : zaf) (pc : Int) (lo st : List zbz) (v : zbz) (lq sq : HA) (w : World) (h : za0 w B c lb cl m q pc lo (st ++ [v]) lq sq) (hl : st.length <= 1000) :
   Calls Tryz.prog 94 #[.pointer (some ⟨c, 0, none⟩)] w fun e w' => e = .returned (vV v) /\ za0 w' B c lb cl m q pc lo st lq sq /\ w.grownBy w' (some c) := by
 have e0 := h.blk.cell 11
 have e1 := h.blk.lt
 have e2 := h.blk.frozen 11
 unfold zea at e0
 obtain ⟨g, hga, hgl, hgB, k0, k1, _, _, hcap⟩ := z0s h.sow (j := st.length) (v := v) (by simp)
 rw [show (st ++ [v]).length = st.length + 1 by simp] at e0
 rw [List.length_append, List.length_singleton] at hcap
 have HO := Hq (zyf h.sow)
 have HS := Hq h
 have HGA := Hq hga
 rw [hga] at e0
 have i0 : (0 : Int) <= (st.length : Int) := Int.natCast_nonneg _
 have i1 : (st.length : Int) < (st.length : Int) + 1 := by omega
 have i2 : (st.length : Int) <= (sq.2 : Int) := by omega
 have HR := Hq (show ∀ W, Below w.heap.size w W -> za0 (W.setCell ⟨c, 11, none⟩ (.slice (some ⟨g, 0, none⟩) st.length sq.2)) B c lb cl m q pc lo st lq sq from fun W hW => by
   have hh := HS.out.below hW
   have hb1 : (hsV lo lq).ownBlock ≠ some c := zfd hh.low hh.blk (by decide)
   have hb2 : (hsV st sq).ownBlock ≠ some c := zfd (zad HO.out hW) hh.blk (by decide)
   refine ⟨?_, zax hh.low hb1 _, zax (zad HO.out hW) hb2 _, fun k hk => ?_, hh.lb, hh.cB⟩
   . have e : zea cl m q pc lo st lq sq = (zea cl m q pc lo (st ++ [v]) lq sq).setIfInBounds 11 (.slice (some ⟨g, 0, none⟩) st.length sq.2) := by unfold zea; rw [HGA.out]; rfl
     rw [e]
     exact zm hh.blk 11 _
   . have := hh.ap k hk
     simp only [hsV, HGA.out, Value.ownBlock] at this |-
     exact this)
 clear h hga
 go_enter Tryz.func94, Tryz.ntmps94
 go_wp2_with fail
 exact bodyPost_ret (v := vV v) (by simp [results, Tryz.results94, go_sem, vV]) rfl ⟨rfl, (HR.out w (Below.refl _ _)).below (ze (ze (Below.refl _ _) _) _), zds (zds (zai (zp w c) 11 _) _) _⟩
theorem zii {P : Program} {w : World} {t e : TypeId} {size bytes : Nat} (T : zld P t e size bytes) {ops : Array Oper} {o : Oper} {a : Act} {K : Act -> World -> Prop} {Q : Exit -> Act -> World -> Prop} {E : Prop} (hgd : o.guard = none) (s x : Operand)
   (ho : o.op = .call { callee := .builtin .append, args := #[s, x], argTypes := #[t, t] }) (B : Nat) (v : Value) (n : Nat) (xs : List Value) (hs : a.eval s = v) (hown : w.ownsRow B e size v n xs)
   (ad : Addr) (m c : Nat) (news : List Value) (hx : a.eval x = .slice (some ad) m c) (hl : news.length = m * size) (hnews : ∀ j u, news[j]? = some u -> w.cell? (ad.add j) = some u) (h1 : ∀ u ∈ news, u.oneCell' = true)
   (hm : 0 < m) (hn : n + m <= 1000000000) (hb : (n + m) * bytes <= 140737488355328) (hB : B <= w.heap.size)
   (h : ∀ g cap w', w'.ownsRow B e size (.slice (some ⟨g, 0, none⟩) (n + m) cap) (n + m) (xs ++ news) -> w.grownBy w' v.ownBlock -> (v.ownBlock = some g \/ g = w.heap.size) -> g < w'.heap.size -> K (a.put o.dst (.slice (some ⟨g, 0, none⟩) (n + m) cap)) w') :
   if Region.wanted o (yielded ops a.tmps) = true then Oper.wp P o a w K Q else E := by
 obtain ⟨i, z, hi, hz, hsz, hby, hzs⟩ := T.info
 exact step_append_lies w hgd s x t ho B e i z size bytes T.slice hi hz hsz hby hzs T.pos v n xs hs hown ad m c news hx hl hnews h1 hm (by unfold maxLen; omega) hb hB _ rfl h
theorem z6p {W W' w4 : World} {B c lb : Nat} {cl : Nm} {m : zo} {q : zaf} {pc : Int} {lo st : List zbz} {v : zbz} {lq sq : HA} {g4 c4 : Nat} (hS : za0 W B c lb cl m q pc lo st lq sq) (hb : Below W.heap.size W W')
   (ho4 : w4.ownsRow B 54 2 (.slice (some ⟨g4, 0, none⟩) (st.length + 1) c4) (st.length + 1) (zbs st ++ zdh v)) (hg4 : W'.grownBy w4 (hsV st sq).ownBlock) (hl4 : (hsV st sq).ownBlock = some g4 \/ g4 = W'.heap.size) :
   Blk w4 c 116 (zea cl m q pc lo st lq sq) /\ za0 (w4.setCell ⟨c, 11, none⟩ (.slice (some ⟨g4, 0, none⟩) (st.length + 1) c4)) B c lb cl m q pc lo (st ++ [v]) lq (some ⟨g4, 0, none⟩, c4) /\
     KbR c lb (hsV st sq) W (w4.setCell ⟨c, 11, none⟩ (.slice (some ⟨g4, 0, none⟩) (st.length + 1) c4)) /\ VUp W (hsV st sq) (hsV (st ++ [v]) (some ⟨g4, 0, none⟩, c4)) /\ ∀ k, k < W.heap.size -> (hsV st sq).ownBlock ≠ some k -> w4.heap[k]? = W.heap[k]? := by
 have hS' := hS.below hb
 have hsz := hb.size
 have hcs : (hsV st sq).ownBlock ≠ some c := zfd hS.sow hS.blk (by decide)
 have hblk : Blk w4 c 116 (zea cl m q pc lo st lq sq) := (hg4.block c hS'.blk.lt (fun e => hcs e.symm)).trans hS'.blk
 have hlo4 : zoz w4 B lo lq := zdg hS'.low (fun g hg => hg4.block g (hS'.low.lt g hg).2 (fun e => hS.ap g hg e.symm))
 have hap4 : ∀ k, (hsV lo lq).ownBlock = some k -> (Value.slice (some ⟨g4, 0, none⟩) (st.length + 1) c4).ownBlock ≠ some k := fun k hk e => by
   simp only [Value.ownBlock, Option.some.injEq] at e
   subst e
   rcases hl4 with h | h
   . exact hS.ap _ hk h
   . have := (hS.low.lt _ hk).2; omega
 have hll : (st ++ [v]).length = st.length + 1 := by simp
 have ho5 : zoz w4 B (st ++ [v]) (some ⟨g4, 0, none⟩, c4) := by unfold zoz; rw [hll, zny]; exact ho4
 have hn5 : (hsV (st ++ [v]) (some ⟨g4, 0, none⟩, c4)).ownBlock ≠ some c := zfd ho5 hblk (by decide)
 refine ⟨hblk, ⟨?_, zax hlo4 (zfd hlo4 hblk (by decide)) _, zax ho5 hn5 _, fun k hk => ?_, hS.lb, hS.cB⟩, ?_, ?_, fun k hk n3 => (hg4.block k (by omega) (fun e => n3 e.symm)).trans (hb.block k hk)⟩
 . have e : zea cl m q pc lo (st ++ [v]) lq (some ⟨g4, 0, none⟩, c4) = (zea cl m q pc lo st lq sq).setIfInBounds 11 (.slice (some ⟨g4, 0, none⟩) (st.length + 1) c4) := by unfold zea; rw [hll]; rfl
   rw [e]
   exact zm hblk 11 _
 . have := hap4 k hk
   unfold hsV
   rw [hll]; exact this
 . refine ⟨hg4.os.trans hb.os, hg4.tape.trans hb.tape, hg4.output.trans hb.output, ?_, fun k hk n1 n2 n3 => ?_⟩
   . have h2 := hg4.size
     simp [World.setCell]; omega
   . rw [Below.heap_setCell _ _ _ _ (by exact n1), hg4.block k (by omega) (fun e => n3 e.symm)]
     exact hb.block k hk
 . rcases hl4 with h | h
   . left
     rw [h]; rfl
   . right
     intro k hk
     simp only [hsV, Value.ownBlock, Option.some.injEq] at hk
     omega
def z15 : Oper := { dst := some 8, op := Op.load 61 (Operand.tmp 7), type := 61, pos := "run.go:56", after := #[{ on := 3, ground := Ground.data }], guard := none }
theorem z3j : z15.op = Op.load 61 (Operand.tmp 7) := rfl
theorem zxm : z15.dst = some 8 := rfl
theorem zr7 : z15.guard = none := rfl
theorem zhr (B c lb : Nat) (cl : Nm) (m : zo) (q : zaf) (pc : Int) (lo st : List zbz) (v : zbz) (lq sq : HA) (w : World) (h : za0 w B c lb cl m q pc lo st lq sq) (hl : st.length <= 1000) :
   Calls Tryz.prog 136 #[.pointer (some ⟨c, 0, none⟩), vV v] w fun e w' => e = .returned (.tuple #[]) /\ ∃ sq', za0 w' B c lb cl m q pc lo (st ++ [v]) lq sq' /\ KbR c lb (hsV st sq) w w' /\ VUp w (hsV st sq) (hsV (st ++ [v]) sq') := by
 obtain ⟨W, hW⟩ : ∃ W, W = w.alloc (.cells #[.int .i64 v.kind, .int .i64 v.n] 54) := ⟨_, rfl⟩
 have hbW : Below w.heap.size w W := by rw [hW]; exact ze (Below.refl _ _) _
 have HV := Hq (show Blk W w.heap.size 54 #[.int .i64 v.kind, .int .i64 v.n] by rw [hW]; exact zg _ _ _ _ rfl)
 have hsW : W.heap.size = w.heap.size + 1 := by rw [hW]; simp
 have HS := Hq (h.below hbW)
 have HBW := Hq hbW
 have hB0 : B <= W.heap.size := by have := h.cB; have := h.blk.lt; omega
 have HPE := Hq (fun W' w4 g4 c4 hb ho hg hl => @z6p W W' w4 B c lb cl m q pc lo st v lq sq g4 c4 (h.below hbW) hb ho hg hl)
 have y0 := (h.below hbW).blk.cell 11
 have y1 := (h.below hbW).blk.lt
 have HNC := Hq (fun j u (hj : (zdh v)[j]? = some u) => show (W.alloc (.cells #[.int .i64 v.kind, .int .i64 v.n] 54)).drew.cell? ((⟨W.heap.size, 0, none⟩ : Addr).add j) = some u from by exact zdj W (zdh v) 54 j u hj)
 have HSC := Hq (fun W' (hw : Below W.heap.size W W') => (show W'.cell? ⟨w.heap.size, 0, none⟩ = some (.int .i64 v.kind) /\ W'.cell? ⟨w.heap.size, 1, none⟩ = some (.int .i64 v.n) from ⟨(HV.out.below hw).cell 0, (HV.out.below hw).cell 1⟩))
 have HSG := Hq (fun W' (hw : KbR c lb (hsV st sq) W W') (hne : w.heap.size ≠ c /\ w.heap.size ≠ lb /\ (hsV st sq).ownBlock ≠ some w.heap.size) => (show W'.cell? ⟨w.heap.size, 0, none⟩ = some (.int .i64 v.kind) /\ W'.cell? ⟨w.heap.size, 1, none⟩ = some (.int .i64 v.n) from by
   have hh : Blk W' w.heap.size 54 #[.int .i64 v.kind, .int .i64 v.n] := (hw.block _ HV.out.lt hne.1 hne.2.1 hne.2.2).trans HV.out
   exact ⟨hh.cell 0, hh.cell 1⟩))
 have HNE := Hq (show w.heap.size ≠ c /\ w.heap.size ≠ lb /\ (hsV st sq).ownBlock ≠ some w.heap.size from ⟨by have := h.blk.lt; omega, by
   rcases h.lb with e | ⟨_, e⟩
   . have := (h.low.lt _ e).2; omega
   . have := h.blk.lt; omega, fun e => by have := (h.sow.lt _ e).2; omega⟩)
 unfold zea at y0
 clear h hbW hsW
 unfold vV
 go_enter Tryz.func136, Tryz.ntmps136
 go_upto_region 1 with fail
 rw [<- hW]
 clear hW
 rw [show ({ dst := some 8, op := Op.load 61 (Operand.tmp 7), type := 61, pos := "run.go:56", after := #[{ on := 3, ground := Ground.data }], guard := none } : Oper) = z15 from rfl]
 have q1 := z3j
 have q2 := zxm
 have q3 := zr7
 go_region_held3 (fun W' => W'.cell? ⟨w.heap.size, 0, none⟩ = some (.int .i64 v.kind) /\ W'.cell? ⟨w.heap.size, 1, none⟩ = some (.int .i64 v.n))
   (first | exact HSC.out _ (Below.refl _ _) | exact HSC.out _ (Below.refl _ _).drew | exact HSC.out _ (ze (Below.refl _ _) _) | exact HSC.out _ (ze (Below.refl _ _) _).drew | exact HSC.out _ (ze (Below.refl _ _).drew _) | exact hs4 | exact HSG.out _ hp.2.2.1 HNE.out)
   ((first
   | (refine zii z7w rfl (.tmp 8) (.tmp 10) rfl B _ st.length (zbs st) rfl ?_ ⟨_, 0, none⟩ 1 1 (zdh v) rfl rfl ?_ (znj v) (by omega) ?_ ?_ ?_ ?_
      . first | exact HS.out.sow.alloc _ | exact (HS.out.sow.alloc _).drew
      . exact HNC.out
      . omega
      . omega
      . first | (simp; omega) | omega
      intro g4 c4 w4 ho4 hg4 hl4 _
      have hp := HPE.out _ w4 g4 c4 (by first | exact (ze (Below.refl _ _) _) | exact (ze (Below.refl _ _) _).drew) ho4 hg4 hl4
      have hh4 : Blk w4 w.heap.size 54 #[.int .i64 v.kind, .int .i64 v.n] := (hp.2.2.2.2 _ HV.out.lt HNE.out.2.2).trans HV.out
      have hs4 : w4.cell? ⟨w.heap.size, 0, none⟩ = some (.int .i64 v.kind) /\ w4.cell? ⟨w.heap.size, 1, none⟩ = some (.int .i64 v.n) := ⟨hh4.cell 0, hh4.cell 1⟩
      have z0 := hp.1.cell 11
      have z1 := hp.1.frozen 11
      have z2 := hp.1.lt
      unfold zea at z0)))
 all_goals
   have HR := Hq hp.2.1
   have HKB := Hq (show KbR c lb (hsV st sq) w (w4.setCell ⟨c, 11, none⟩ (.slice (some ⟨g4, 0, none⟩) (st.length + 1) c4)) from (KbR.of_below HBW.out).trans hp.2.2.1 (VUp.refl _ _))
   have HUP := Hq (show VUp w (hsV st sq) (hsV (st ++ [v]) (some ⟨g4, 0, none⟩, c4)) from by
     rcases hp.2.2.2.1 with h | h
     . exact Or.inl h
     . exact Or.inr (fun k hk => Nat.le_trans HBW.out.size (h k hk)))
   clear q1 q2 q3 hp hs4 hh4 ho4 hg4 hl4 z0 z1 z2 y0 y1
   go_wp2_with fail
   go_end0
   exact ⟨rfl, _, HR.out, HKB.out, HUP.out⟩
def zbo (b : Nat) (hv cv : Value) (tk tn : Int) (th : Nm) (s : Int) (ov : Bool) : Array Value :=
 #[.map (some b), hv, cv, .int .i64 tk, .int .i64 tn, .string ⟨⟨th⟩⟩, .int .i64 s, .bool ov]
theorem zsn (K b cs cc : Nat) (hv : Value) (s : Int) (v : zbz) (w : World) (hK : Blk w K 86 (zbo b hv (.slice (some ⟨cs, 0, none⟩) 1 cc) 0 0 [] s false)) :
   Calls Tryz.prog 93 #[.pointer (some ⟨K, 0, none⟩), vV v] w fun e w' => e = .returned (.tuple #[]) /\ Blk w' K 86 (zbo b hv (.slice (some ⟨cs, 0, none⟩) 0 cc) v.kind v.n [] s true) /\ w.grownBy w' (some K) := by
 obtain ⟨W, hW⟩ : ∃ W, W = w.alloc (.cells #[.int .i64 v.kind, .int .i64 v.n] 54) := ⟨_, rfl⟩
 have hbW : Below w.heap.size w W := by rw [hW]; exact ze (Below.refl _ _) _
 have HV := Hq (show Blk W w.heap.size 54 #[.int .i64 v.kind, .int .i64 v.n] by rw [hW]; exact zg _ _ _ _ rfl)
 have HK := Hq (hK.below hbW)
 have hne : w.heap.size ≠ K := by have := hK.lt; omega
 have hKl := hK.lt
 have HBW := Hq hbW
 have k0 := HK.out.cell 2
 have k1 := HK.out.frozen 2
 have k2 := HK.out.lt
 unfold zbo at k0
 clear hbW
 unfold vV
 go_enter Tryz.func93, Tryz.ntmps93
 go_upto_region 1 with fail
 rw [<- hW]
 clear hW
 go_region
 obtain ⟨W1, hW1⟩ : ∃ W1, W1 = W.setCell ⟨K, 2, none⟩ (.slice (some ⟨cs, 0, none⟩) 0 cc) := ⟨_, rfl⟩
 have HK1 := Hq (show Blk W1 K 86 (zbo b hv (.slice (some ⟨cs, 0, none⟩) 0 cc) 0 0 [] s false) by rw [hW1]; exact zm HK.out 2 _)
 have HV1 := Hq (show Blk W1 w.heap.size 54 #[.int .i64 v.kind, .int .i64 v.n] by rw [hW1]; exact zgk HV.out hne _)
 have HG1 := Hq (show w.grownBy W1 (some K) by rw [hW1]; exact zai (zay (zp w K) HBW.out) 2 _)
 rw [<- hW1]
 clear hW1 k0 k1 k2
 have k0 := HK1.out.cell 2
 have k2 := HK1.out.lt
 have k3 := HK1.out.cell 3
 have k4 := HK1.out.cell 4
 have k5 := HK1.out.cell 7
 have k6 := HK1.out.frozen 3
 have k7 := HK1.out.frozen 4
 have k8 := HK1.out.frozen 7
 have v0 := HV1.out.cell 0
 have v1 := HV1.out.cell 1
 have v2 := HV1.out.lt
 unfold zbo at k0 k3 k4 k5
 go_wp2_with fail
 exact bodyPost_ret (v := .tuple #[]) (by simp [results, Tryz.results93, go_sem]) rfl ⟨rfl, Blk.drew (show Blk _ K 86 (zbo b hv (.slice (some ⟨cs, 0, none⟩) 0 cc) v.kind v.n [] s true) from zm (zm (zm HK1.out 3 _) 4 _) 7 _), zb9 (zai (zai (zai HG1.out 3 _) 4 _) 7 _)⟩
theorem zon {P : Program} (w : World) (dT sT ty elem : TypeId) (g o dLen dCap : Nat) (a : Addr) (sLen sCap k : Nat) (cur : Array Value) (t : TypeId) (cs : List Value)
   (hu : P.underlying dT = some (.slice elem)) (hs : (P.info? elem).map (·.size) = some k)
   (hg : w.heap[g]? = some (.cells cur t (0, 0))) (hn : cs.length = Nat.min sLen dLen * k)
   (hsrc : ∀ j v, cs[j]? = some v -> w.cell? (a.add j) = some v) (hfit : o + cs.length <= cur.size) (h1 : ∀ v ∈ cs, v.oneCell' = true) :
   (Builtin.copy_ #[dT, sT] ty #[.slice (some ⟨g, o, none⟩) dLen dCap, .slice (some a) sLen sCap]).run P w =
     .ok (goInt (Nat.min sLen dLen)) (w.setRow g (cur.toList.take o ++ cs ++ cur.toList.drop (o + cs.length)).toArray) := by
 have hl := run_loadCells_list (P := P) w a cs hsrc
 have hst := run_storeCells_at P g o t cs 0 cur w hg (by simpa using hfit) h1
 cases hq : P.info? elem with
 | none => simp [hq] at hs
 | some i =>
   have hi : i.size = k := by simpa [hq] using hs
   simp [Builtin.copy_, run_underlying hu, Builtin.lenOf, Builtin.firstCells, sizeOf, typeInfo, hq, hi, <- hn, hl, hst]
theorem zu2 : ∀ (L : List (List Value)) (size j : Nat) (u : Value), 0 < size -> (∀ c ∈ L, c.length = size) -> L.flatten[j]? = some u -> ∃ cs, L[j / size]? = some cs /\ cs[j % size]? = some u
 | [], _, j, u, _, _, h => by simp at h
 | c :: L, size, j, u, hs, hl, h => by
   have hc := hl c (by simp)
   simp only [List.flatten_cons] at h
   by_cases hj : j < size
   . rw [List.getElem?_append_left (by omega)] at h
     exact ⟨c, by rw [Nat.div_eq_of_lt hj]; rfl, by rw [Nat.mod_eq_of_lt hj]; exact h⟩
   . rw [List.getElem?_append_right (by omega), hc] at h
     obtain ⟨cs, h1, h2⟩ := zu2 L size (j - size) u hs (fun x hx => hl x (by simp [hx])) h
     refine ⟨cs, ?_, ?_⟩
     . rw [Nat.div_eq_sub_div hs (by omega)]; simpa using h1
     . rw [Nat.mod_eq_sub_mod (by omega)]; exact h2
def zsa (args : List zbz) (n : Nat) : List zbz := args ++ List.replicate (n - args.length) ⟨0, 0⟩
theorem z2f {args : List zbz} {n : Nat} (h : args.length <= n) : (zsa args n).length = n := by simp [zsa]; omega
theorem zp6 (a b : List zbz) : zbs (a ++ b) = zbs a ++ zbs b := by simp [zbs]
theorem zy9 (w : World) (g n : Nat) (args : List zbz) (aq : HA) (hg : Blk w g 54 (zbs (List.replicate n ⟨0, 0⟩)).toArray) (ha : zkh w args aq) (hl : args.length <= n) (h0 : args ≠ [] \/ aq = (none, 0)) :
   ∃ w', (Builtin.copy_ #[61, 61] 3 #[.slice (some ⟨g, 0, none⟩) n n, .slice aq.1 args.length aq.2]).run Tryz.prog w = .ok (goInt args.length) w' /\ Blk w' g 54 (zbs (zsa args n)).toArray /\ w.grownBy w' (some g) := by
 by_cases he : args = []
 . rcases h0 with h0 | h0
   . exact absurd he h0
   . subst he
     rw [h0]
     refine ⟨w, ?_, ?_, zp _ _⟩
     . exact run_copy_nil (P := Tryz.prog) w 61 61 3 54 ⟨g, 0, none⟩ n n Tryz.underlying61 (by kernel_rfl)
     . simpa [zsa] using hg
 . obtain ⟨v, hv⟩ : ∃ v, args[0]? = some v := ⟨_, List.getElem?_eq_getElem (List.length_pos_iff.2 he)⟩
   obtain ⟨b, off, hq, _, _, _⟩ := ha.cells hv
   have hlen := zfn args
   have hsrc : ∀ j u, (zbs args)[j]? = some u -> w.cell? ((⟨b, off, none⟩ : Addr).add j) = some u := fun j u hj => by
     have e : (⟨b, off, none⟩ : Addr).add j = ⟨b, off + j, none⟩ := by unfold Addr.add; split <;> simp_all
     rw [e]
     obtain ⟨cs, h3, h4⟩ := zu2 (args.map zdh) 2 j u (by decide) (by intro c hc; obtain ⟨x, _, rfl⟩ := List.mem_map.1 hc; rfl) hj
     rw [List.getElem?_map] at h3
     obtain ⟨x, hx, rfl⟩ := Option.map_eq_some_iff.1 h3
     obtain ⟨b2, off2, hq2, _, k0, k1⟩ := ha.cells hx
     rw [hq] at hq2
     simp only [Option.some.injEq, Addr.mk.injEq, and_true] at hq2
     obtain ⟨rfl, rfl⟩ := hq2
     have hm : j % 2 < 2 := Nat.mod_lt _ (by decide)
     have hd : j = j / 2 * 2 + j % 2 := by omega
     generalize j / 2 = d at *
     generalize j % 2 = r at *
     subst hd
     match r, hm, h4 with
     | 0, _, h4 => simp [zdh] at h4; rw [<- h4]; exact k0
     | 1, _, h4 => simp [zdh] at h4; rw [<- h4, show off + (d * 2 + 1) = off + d * 2 + 1 by omega]; exact k1
   have hmin : Nat.min args.length n = args.length := Nat.min_eq_left hl
   have hsz := zfn (List.replicate n ⟨0, 0⟩)
   rw [List.length_replicate] at hsz
   have hr := zon (P := Tryz.prog) w 61 61 3 54 g 0 n n ⟨b, off, none⟩ args.length aq.2 2 _ 54 (zbs args) Tryz.underlying61 (by kernel_rfl) hg (by rw [hmin]; exact hlen) hsrc (by simp; omega) (z0j args)
   rw [hmin] at hr
   rw [hq]
   refine ⟨_, hr, ?_, zj7 _ _ _⟩
   have := setRow_heap w g (zbs (List.replicate n ⟨0, 0⟩)).toArray ((zbs (List.replicate n ⟨0, 0⟩)).toArray.toList.take 0 ++ zbs args ++ (zbs (List.replicate n ⟨0, 0⟩)).toArray.toList.drop (0 + (zbs args).length)).toArray 54 (0, 0) hg
   have e2 : (zbs (List.replicate n (⟨0, 0⟩ : zbz))).drop (0 + (zbs args).length) = zbs (List.replicate (n - args.length) ⟨0, 0⟩) := by
     have : List.replicate n (⟨0, 0⟩ : zbz) = List.replicate args.length ⟨0, 0⟩ ++ List.replicate (n - args.length) ⟨0, 0⟩ := by rw [List.replicate_append_replicate, show args.length + (n - args.length) = n by omega]
     rw [this, zp6, List.drop_append_of_le_length (by simp only [zfn, List.length_replicate]; omega), List.drop_eq_nil_of_le (by simp only [zfn, List.length_replicate]; omega)]
     rfl
   have e3 : (zbs (List.replicate n (⟨0, 0⟩ : zbz))).take 0 ++ zbs args ++ (zbs (List.replicate n (⟨0, 0⟩ : zbz))).drop (0 + (zbs args).length) = zbs (zsa args n) := by rw [e2, List.take_zero, List.nil_append, zsa, zp6]
   have e4 : ((zbs (List.replicate n ⟨0, 0⟩)).toArray.toList.take 0 ++ zbs args ++ (zbs (List.replicate n ⟨0, 0⟩)).toArray.toList.drop (0 + (zbs args).length)).toArray = (zbs (zsa args n)).toArray := by rw [<- e3]
   rw [e4] at this |-
   exact this
theorem z6n : zld Tryz.prog 84 114 1 8 := zld.mk' (z := .pointer none) Tryz.underlying84 (by kernel_rfl) rfl (by decide)
def z1l : Oper := { dst := some 27, op := Op.load 84 (Operand.tmp 26), type := 84, pos := "run.go:78", after := #[{ on := 3, ground := Ground.data }], guard := none }
theorem z3g : z1l.op = Op.load 84 (Operand.tmp 26) := rfl
theorem zy0 : z1l.dst = some 27 := rfl
theorem zr9 : z1l.guard = none := rfl
theorem ztb (K b : Nat) (hv : Value) (s : Int) (cl : Nm) (m : zo) (q : zaf) (n : Nat) (args : List zbz) (aq : HA) (w : World) (hK : Blk w K 86 (zbo b hv (.slice none 0 0) 0 0 [] s false)) (hn : m.loc = n) (hn8 : n <= 8) (ha : zkh w args aq) (hl : args.length <= n) (h0 : args ≠ [] \/ aq = (none, 0)) :
   Calls Tryz.prog 26 #[.pointer (some ⟨K, 0, none⟩), .string ⟨⟨cl⟩⟩, zca m q, .slice aq.1 args.length aq.2] w fun e w' => e = .returned (.tuple #[]) /\ ∃ c cs cc, Blk w' K 86 (zbo b hv (.slice (some ⟨cs, 0, none⟩) 1 cc) 0 0 [] s false) /\
     w'.ownsRow w.heap.size 114 1 (.slice (some ⟨cs, 0, none⟩) 1 cc) 1 [.pointer (some ⟨c, 0, none⟩)] /\ za0 w' w.heap.size c (w.heap.size + 1) cl m q 0 (zsa args n) [] (some ⟨w.heap.size + 1, 0, none⟩, n) (none, 0) /\ w.grownBy w' (some K) := by
 obtain ⟨W, hW⟩ : ∃ W, W = w.alloc (.cells (zj4 m q) 45) := ⟨_, rfl⟩
 have hbW : Below w.heap.size w W := by rw [hW]; exact ze (Below.refl _ _) _
 have HM := Hq (show Blk W w.heap.size 45 (zj4 m q) by rw [hW]; exact zg _ _ _ _ rfl)
 have hsW : W.heap.size = w.heap.size + 1 := by rw [hW]; simp
 have HK := Hq (hK.below hbW)
 obtain ⟨F, hF⟩ := zxn n (by omega)
 obtain ⟨hF1, hF2, hF3⟩ := hF W
 obtain ⟨W2, hW2⟩ : ∃ W2, W2 = F W := ⟨_, rfl⟩
 rw [<- hW2] at hF1 hF2 hF3
 have hb12 : Below W.heap.size W W2 := ⟨hF3.os, hF3.tape, hF3.output, hF3.size, fun k hk => hF3.block k hk (by simp)⟩
 obtain ⟨W3, hC1, hC2, hC3⟩ := zy9 W2 W.heap.size n args aq hF2 (ha.below (zc hbW hb12)) hl h0
 have HK3 := Hq (zac hC3 (HK.out.below hb12) (by have := hK.lt; omega))
 have HM3 := Hq (zac hC3 (HM.out.below hb12) (by omega))
 have HL3 := Hq hC2
 have HG3 := Hq (show Below w.heap.size w W3 from zj (zc hbW hb12) hC3 (by omega))
 have e0 := HK.out.cell 2
 have e1 := HK.out.lt
 have m5 := HM.out.cell 5
 have m9 := HM.out.lt
 unfold zbo at e0
 unfold zj4 at m5
 rw [hn] at m5
 unfold zca
 have HN := Hq hn
 have HSW := Hq hsW
 have HKM := Hq (show w.heap.size ≠ K by have := hK.lt; omega)
 have HPL := Hq (z2f hl)
 clear hsW
 clear hK hbW ha hl h0 hF hF2 hF3 hW2 hb12 hC2 hC3 hn
 go_enter Tryz.func26, Tryz.ntmps26
 go_upto_region 1 with fail
 have hmA : zj4 m q = #[.string ⟨⟨m.nm⟩⟩, .string ⟨⟨m.ty⟩⟩, .bool m.stat, .bool m.abst, .bool m.priv, .int .i64 m.loc, .slice q.ca m.code.length q.cc, .slice q.ha m.hs.length q.hc] := rfl
 rw [<- hmA, <- hW]
 clear hW hmA
 go_upto_region 5 with fail
 clear hF1 hC1 e0 e1 m5 m9
 have HSC := Hq (fun W' (hw : Below W3.heap.size W3 W') => (show W'.cell? ⟨w.heap.size, 0, none⟩ = some (.string ⟨⟨m.nm⟩⟩) /\ W'.cell? ⟨w.heap.size, 1, none⟩ = some (.string ⟨⟨m.ty⟩⟩) /\ W'.cell? ⟨w.heap.size, 2, none⟩ = some (.bool m.stat) /\ W'.cell? ⟨w.heap.size, 3, none⟩ = some (.bool m.abst) /\ W'.cell? ⟨w.heap.size, 4, none⟩ = some (.bool m.priv) /\ W'.cell? ⟨w.heap.size, 5, none⟩ = some (.int .i64 m.loc) /\ W'.cell? ⟨w.heap.size, 6, none⟩ = some (.slice q.ca m.code.length q.cc) /\ W'.cell? ⟨w.heap.size, 7, none⟩ = some (.slice q.ha m.hs.length q.hc) from
   have h := HM3.out.below hw
   ⟨h.cell 0, h.cell 1, h.cell 2, h.cell 3, h.cell 4, h.cell 5, h.cell 6, h.cell 7⟩))
 have e0 := HK3.out.cell 2
 have e1 := HK3.out.lt
 unfold zbo at e0
 have hKM : w.heap.size ≠ K := HKM.out
 have HSD := Hq (fun W' (u : Value) (hw : Below W3.heap.size W3 W') => (show (W'.setCell ⟨K, 2, none⟩ u).cell? ⟨w.heap.size, 0, none⟩ = some (.string ⟨⟨m.nm⟩⟩) /\ (W'.setCell ⟨K, 2, none⟩ u).cell? ⟨w.heap.size, 1, none⟩ = some (.string ⟨⟨m.ty⟩⟩) /\ (W'.setCell ⟨K, 2, none⟩ u).cell? ⟨w.heap.size, 2, none⟩ = some (.bool m.stat) /\ (W'.setCell ⟨K, 2, none⟩ u).cell? ⟨w.heap.size, 3, none⟩ = some (.bool m.abst) /\ (W'.setCell ⟨K, 2, none⟩ u).cell? ⟨w.heap.size, 4, none⟩ = some (.bool m.priv) /\ (W'.setCell ⟨K, 2, none⟩ u).cell? ⟨w.heap.size, 5, none⟩ = some (.int .i64 m.loc) /\ (W'.setCell ⟨K, 2, none⟩ u).cell? ⟨w.heap.size, 6, none⟩ = some (.slice q.ca m.code.length q.cc) /\ (W'.setCell ⟨K, 2, none⟩ u).cell? ⟨w.heap.size, 7, none⟩ = some (.slice q.ha m.hs.length q.hc) from
   have h := zgk (j := 2) (HM3.out.below hw) hKM u
   ⟨h.cell 0, h.cell 1, h.cell 2, h.cell 3, h.cell 4, h.cell 5, h.cell 6, h.cell 7⟩))
 have HCB := Hq (show Blk ((W3.alloc (.cells #[.string ⟨⟨cl⟩⟩, .string ⟨⟨m.nm⟩⟩, .string ⟨⟨m.ty⟩⟩, .bool m.stat, .bool m.abst, .bool m.priv, .int .i64 m.loc, .slice q.ca m.code.length q.cc, .slice q.ha m.hs.length q.hc, .int .i64 0, .slice (some ⟨W.heap.size, 0, none⟩) n n, .slice none 0 0] 116)).alloc (.cells #[.pointer (some ⟨W3.heap.size, 0, none⟩)] 114)) W3.heap.size 116 (zea cl m q 0 (zsa args n) [] (some ⟨W.heap.size, 0, none⟩, n) (none, 0)) from by
   unfold zea
   rw [HPL.out]
   exact (zg _ _ _ _ rfl).alloc _)
 have HNC1 := Hq (fun (j : Nat) (u : Value) (hj : ([Value.pointer (some ⟨W3.heap.size, 0, none⟩)] : List Value)[j]? = some u) => show ((W3.alloc (.cells #[.string ⟨⟨cl⟩⟩, .string ⟨⟨m.nm⟩⟩, .string ⟨⟨m.ty⟩⟩, .bool m.stat, .bool m.abst, .bool m.priv, .int .i64 m.loc, .slice q.ca m.code.length q.cc, .slice q.ha m.hs.length q.hc, .int .i64 0, .slice (some ⟨W.heap.size, 0, none⟩) n n, .slice none 0 0] 116)).alloc (.cells #[.pointer (some ⟨W3.heap.size, 0, none⟩)] 114)).cell? ((⟨W3.heap.size + 1, 0, none⟩ : Addr).add j) = some u from by
   have h := zdj (W3.alloc (.cells #[.string ⟨⟨cl⟩⟩, .string ⟨⟨m.nm⟩⟩, .string ⟨⟨m.ty⟩⟩, .bool m.stat, .bool m.abst, .bool m.priv, .int .i64 m.loc, .slice q.ca m.code.length q.cc, .slice q.ha m.hs.length q.hc, .int .i64 0, .slice (some ⟨W.heap.size, 0, none⟩) n n, .slice none 0 0] 116)) [.pointer (some ⟨W3.heap.size, 0, none⟩)] 114 j u hj
   simpa using h)
 have HNC := Hq (fun (Wb : World) (g : Nat) (j : Nat) (u : Value) (hj : ([Value.pointer (some ⟨g, 0, none⟩)] : List Value)[j]? = some u) => show (Wb.alloc (.cells #[.pointer (some ⟨g, 0, none⟩)] 114)).cell? ((⟨Wb.heap.size, 0, none⟩ : Addr).add j) = some u from zdj Wb [.pointer (some ⟨g, 0, none⟩)] 114 j u hj)
 rw [show ({ dst := some 27, op := Op.load 84 (Operand.tmp 26), type := 84, pos := "run.go:78", after := #[{ on := 3, ground := Ground.data }], guard := none } : Oper) = z1l from rfl]
 have q1 := z3g
 have q2 := zy0
 have q3 := zr9
 go_region_held3 (fun W' => W'.cell? ⟨w.heap.size, 0, none⟩ = some (.string ⟨⟨m.nm⟩⟩) /\ W'.cell? ⟨w.heap.size, 1, none⟩ = some (.string ⟨⟨m.ty⟩⟩) /\ W'.cell? ⟨w.heap.size, 2, none⟩ = some (.bool m.stat) /\ W'.cell? ⟨w.heap.size, 3, none⟩ = some (.bool m.abst) /\ W'.cell? ⟨w.heap.size, 4, none⟩ = some (.bool m.priv) /\ W'.cell? ⟨w.heap.size, 5, none⟩ = some (.int .i64 m.loc) /\ W'.cell? ⟨w.heap.size, 6, none⟩ = some (.slice q.ca m.code.length q.cc) /\ W'.cell? ⟨w.heap.size, 7, none⟩ = some (.slice q.ha m.hs.length q.hc))
   (first | exact HSC.out _ (Below.refl _ _) | exact HSC.out _ (Below.refl _ _).drew | exact HSC.out _ (ze (Below.refl _ _) _) | exact HSC.out _ (ze (Below.refl _ _) _).drew | exact HSC.out _ (ze (Below.refl _ _).drew _) | exact HSC.out _ (ze (ze (Below.refl _ _) _) _) | exact HSC.out _ (ze (ze (Below.refl _ _) _) _).drew | exact hs4 | exact hs5)
   ((first
   | (refine zii z6n rfl (.tmp 27) (.tmp 33) rfl W3.heap.size (.slice none 0 0) 0 [] rfl ⟨rfl, Or.inl ⟨rfl, rfl⟩⟩ ⟨_, 0, none⟩ 1 1 [.pointer (some ⟨W3.heap.size, 0, none⟩)] rfl rfl ?_ ?_ (by omega) (by omega) (by omega) ?_ ?_
      . first | exact HNC1.out | (intro j u hj; exact HNC1.out j u hj)
      . intro u hu
        rw [List.mem_singleton.1 hu]; rfl
      . simp; omega
      intro g6 c6 w6 ho6 hg6 hl6 _
      have hb6 : Below W3.heap.size W3 w6 := by
        first
        | exact (ze (ze (Below.refl _ _) _) _).trans ⟨hg6.os, hg6.tape, hg6.output, hg6.size, fun k hk => hg6.block k (by simp; omega) (by simp [Value.ownBlock])⟩
        | exact (ze (ze (Below.refl _ _) _) _).drew.trans ⟨hg6.os, hg6.tape, hg6.output, hg6.size, fun k hk => hg6.block k (by simp; omega) (by simp [Value.ownBlock])⟩
      have hc6 : Blk w6 W3.heap.size 116 (zea cl m q 0 (zsa args n) [] (some ⟨W.heap.size, 0, none⟩, n) (none, 0)) := (hg6.block W3.heap.size (by simp; omega) (by simp [Value.ownBlock])).trans HCB.out
      have hs4 := HSC.out _ hb6
      have hs5 := HSD.out _ (.slice (some ⟨g6, 0, none⟩) 1 c6) hb6
      have z0 := (HK3.out.below hb6).cell 2
      have z1 := (HK3.out.below hb6).frozen 2
      have z2 := (HK3.out.below hb6).lt
      unfold zbo at z0)))
 all_goals
   have HK6 := Hq (HK3.out.below hb6)
   have HC6 := Hq hc6
   have HL6 := Hq (HL3.out.below hb6)
   have hgK : g6 ≠ K := fun e => by
     have h1 := HK3.out.lt
     rcases hl6 with h | h
     . simp [Value.ownBlock] at h
     . simp at h; omega
   have hcK : W3.heap.size ≠ K := by have h1 := HK3.out.lt; omega
   have hlK : W.heap.size ≠ K := by have h1 := HK.out.lt; omega
   have HR := Hq (show (w6.setCell ⟨K, 2, none⟩ (.slice (some ⟨g6, 0, none⟩) 1 c6)).ownsRow w.heap.size 114 1 (.slice (some ⟨g6, 0, none⟩) 1 c6) 1 [.pointer (some ⟨W3.heap.size, 0, none⟩)] from
     zax (zjb ho6 HG3.out.size) (by simp only [Value.ownBlock]; intro e; exact hgK (by simpa using e)) _)
   have HCA := Hq (show za0 (w6.setCell ⟨K, 2, none⟩ (.slice (some ⟨g6, 0, none⟩) 1 c6)) w.heap.size W3.heap.size (w.heap.size + 1) cl m q 0 (zsa args n) [] (some ⟨w.heap.size + 1, 0, none⟩, n) (none, 0) from by
     rw [<- HSW.out]
     refine ⟨zgk HC6.out hcK _, ?_, ⟨rfl, Or.inl ⟨rfl, rfl⟩⟩, fun k _ e => (by cases e), Or.inl rfl, HG3.out.size⟩
     have hl6' := zgk (j := 2) HL6.out hlK (.slice (some ⟨g6, 0, none⟩) 1 c6)
     have hpl := HPL.out
     have hvl := zfn (zsa args n)
     unfold zoz
     rw [hpl] at hvl |-
     exact ⟨hvl, Or.inr ⟨W.heap.size, n, _, rfl, by have := HSW.out; omega, hl6', Nat.le_refl _, by unfold maxLen; omega, by rw [List.size_toArray]; exact hvl, List.take_of_length_le (by show (zbs (zsa args n)).length <= _; omega)⟩⟩)
   have HB6 := Hq (zm HK6.out 2 (.slice (some ⟨g6, 0, none⟩) 1 c6))
   have HG6 := Hq (zai (zay (zp w K) (zc HG3.out hb6)) 2 (.slice (some ⟨g6, 0, none⟩) 1 c6))
   clear q1 q2 q3 hs4 hs5 hb6 hc6 z0 z1 z2 ho6 hg6 hl6 e0
   go_wp2_with fail
   go_end0
   exact ⟨rfl, W3.heap.size, g6, c6, HB6.out, HR.out, HCA.out, HG6.out⟩
end Go.Proofs.YtbnkckjdgpiggaaGreatDoor
