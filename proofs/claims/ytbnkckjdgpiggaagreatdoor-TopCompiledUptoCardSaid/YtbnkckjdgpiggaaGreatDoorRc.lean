import Derived.Test.YtbnkckjdgpiggaaGreatDoorRb
namespace Go.Proofs.YtbnkckjdgpiggaaGreatDoor
set_option maxRecDepth 100000
set_option maxHeartbeats 16000000
set_option linter.unusedVariables false
set_option linter.unusedSimpArgs false
open Go.RowKit Go.Shelf Go.Lib Go.Sort
def zsh (T : TypeId) : Prop := T = 54 \/ T = 116 \/ T = 86 \/ T = 114 \/ T = 111
def zci (w w' : World) : Prop := ∀ (g : Nat) (cur : Array Value) (T : TypeId), ¬ zsh T -> Blk w g T cur -> Blk w' g T cur
theorem zci.refl (w : World) : zci w w := fun _ _ _ _ h => h
theorem zci.trans {a b c : World} (h : zci a b) (k : zci b c) : zci a c := fun g cur T hT hb => k g cur T hT (h g cur T hT hb)
theorem zci.of_below {w w' : World} (h : Below w.heap.size w w') : zci w w' := fun g cur T _ hb => hb.below h
theorem zci.grown {w w' : World} {K : Nat} {cur : Array Value} {T : TypeId} (hK : Blk w K T cur) (hT : zsh T) (hg : w.grownBy w' (some K)) : zci w w' := fun g cur2 T2 hT2 hb => zac hg hb (fun e => by
 subst e
 have h1 : w.heap[g]? = some (.cells cur T (0, 0)) := hK
 have h2 : w.heap[g]? = some (.cells cur2 T2 (0, 0)) := hb
 rw [h1] at h2
 simp at h2
 exact hT2 (h2.2 ▸ hT))
structure zd7 (W0 w : World) (K c lb cs cc b : Nat) (hv : Value) (s : Int) (cl : Nm) (m : zo) (q : zaf) (pc : Int) (lo st : List zbz) (lq sq : HA) : Prop where
 blk : Blk w K 86 (zbo b hv (.slice (some ⟨cs, 0, none⟩) 1 cc) 0 0 [] s false)
 row : w.ownsRow W0.heap.size 114 1 (.slice (some ⟨cs, 0, none⟩) 1 cc) 1 [.pointer (some ⟨c, 0, none⟩)]
 call : za0 w W0.heap.size c lb cl m q pc lo st lq sq
 bK : W0.heap.size <= K
 bel : Below W0.heap.size W0 w
section
variable {W0 w w' : World} {B K c lb cs cc b : Nat} {hv : Value} {s : Int} {cl : Nm} {m : zo} {q : zaf} {pc : Int} {lo st : List zbz} {lq sq : HA}
theorem zd7.below (h : zd7 W0 w K c lb cs cc b hv s cl m q pc lo st lq sq) (hb : Below w.heap.size w w') : zd7 W0 w' K c lb cs cc b hv s cl m q pc lo st lq sq := ⟨h.blk.below hb, zad h.row hb, h.call.below hb, h.bK, zc h.bel hb⟩
theorem za0.lb_type (h : za0 w B c lb cl m q pc lo st lq sq) : lb = c \/ (B <= lb /\ ∃ cur, w.heap[lb]? = some (.cells cur 54 (0, 0))) := by
 rcases h.lb with h1 | ⟨_, h1⟩
 . rcases h.low.2 with ⟨h0, _⟩ | ⟨g, _, cur, h0, hB, hg, _⟩
   . have : (hsV lo lq) = .slice none 0 0 := h0
     rw [this] at h1; cases h1
   . have : (hsV lo lq) = .slice (some ⟨g, 0, none⟩) _ _ := h0
     rw [this] at h1
     simp only [Value.ownBlock, Option.some.injEq] at h1
     subst h1
     exact Or.inr ⟨hB, cur, hg⟩
 . exact Or.inl h1
theorem za0.apart (h : za0 w B c lb cl m q pc lo st lq sq) {g : Nat} {cur : Array Value} {T : TypeId} (hg : Blk w g T cur) (h1 : T ≠ 54) (h2 : T ≠ 116) : g ≠ c /\ g ≠ lb /\ (hsV st sq).ownBlock ≠ some g := by
 have hg' : w.heap[g]? = some (.cells cur T (0, 0)) := hg
 have hc : g ≠ c := fun e => by
   subst e
   rw [show w.heap[g]? = some (.cells _ _ (0, 0)) from h.blk] at hg'
   simp at hg'
   exact h2 hg'.2.symm
 refine ⟨hc, fun e => ?_, zfd h.sow hg h1⟩
 rcases h.lb_type with e2 | ⟨_, cur2, e2⟩
 . exact hc (e.trans e2)
 . rw [<- e, hg'] at e2
   simp at e2
   exact h1 e2.2
theorem za0.keepT (h : za0 w B c lb cl m q pc lo st lq sq) (hk : KbR c lb (hsV st sq) w w') : zci w w' := fun g cur T hT hb => by
 obtain ⟨n1, n2, n3⟩ := h.apart hb (fun e => hT (Or.inl e)) (fun e => hT (Or.inr (Or.inl e)))
 exact (hk.block g hb.lt n1 n2 n3).trans hb
theorem zd7.kbB (h : zd7 W0 w K c lb cs cc b hv s cl m q pc lo st lq sq) (hk : KbR c lb (hsV st sq) w w') : Below W0.heap.size w w' :=
 hk.to_below h.call.cB (by rcases h.call.lb_type with e | ⟨e, _⟩; rw [e]; exact h.call.cB; exact e) (fun k e => (h.call.sow.lt k e).1) (by have := h.call.blk.lt; have := h.call.cB; omega)
theorem zd7.keep {pc' : Int} {lo' st' : List zbz} {sq' : HA} (h : zd7 W0 w K c lb cs cc b hv s cl m q pc lo st lq sq) (hk : KbR c lb (hsV st sq) w w') (hc : za0 w' W0.heap.size c lb cl m q pc' lo' st' lq sq') : zd7 W0 w' K c lb cs cc b hv s cl m q pc' lo' st' lq sq' := by
 obtain ⟨n1, n2, n3⟩ := h.call.apart h.blk (by decide) (by decide)
 refine ⟨(hk.block K h.blk.lt n1 n2 n3).trans h.blk, zdg h.row fun g hg => ?_, hc, h.bK, h.bel.trans (h.kbB hk)⟩
 rcases h.row.2 with ⟨h0, _⟩ | ⟨g2, _, cur, h0, _, hg2, _⟩
 . cases h0
 . simp only [Value.slice.injEq, Option.some.injEq, Addr.mk.injEq, and_true] at h0
   simp only [Value.ownBlock, Option.some.injEq] at hg
   obtain ⟨e1, _⟩ := h0
   subst e1
   subst hg
   obtain ⟨m1, m2, m3⟩ := h.call.apart (show Blk w _ _ _ from hg2) (by decide) (by decide)
   exact hk.block _ (Array.getElem?_eq_some_iff.1 hg2).1 m1 m2 m3
theorem zd7.csat (h : zd7 W0 w K c lb cs cc b hv s cl m q pc lo st lq sq) : w.cell? ⟨cs, 0, none⟩ = some (.pointer (some ⟨c, 0, none⟩)) /\ cs < w.heap.size /\ 1 <= cc := by
 obtain ⟨g, h1, h2, _, h3, _, h4⟩ := zgo h.row (j := 0) (u := .pointer (some ⟨c, 0, none⟩)) rfl
 simp only [Option.some.injEq, Addr.mk.injEq, and_true] at h1
 subst h1
 exact ⟨h3, h2, h4⟩
theorem zd7.pc_set (nx : Int) (h : zd7 W0 w K c lb cs cc b hv s cl m q pc lo st lq sq) : zd7 W0 (w.setCell ⟨c, 9, none⟩ (.int .i64 nx)) K c lb cs cc b hv s cl m q nx lo st lq sq /\ KbR c lb (hsV st sq) w (w.setCell ⟨c, 9, none⟩ (.int .i64 nx)) := by
 have hb1 : (hsV lo lq).ownBlock ≠ some c := zfd h.call.low h.call.blk (by decide)
 have hb2 : (hsV st sq).ownBlock ≠ some c := zfd h.call.sow h.call.blk (by decide)
 have hkb : KbR c lb (hsV st sq) w (w.setCell ⟨c, 9, none⟩ (.int .i64 nx)) := ⟨rfl, rfl, rfl, by simp [World.setCell], fun k hk n1 _ _ => Below.heap_setCell _ _ _ _ (by exact n1)⟩
 exact ⟨h.keep hkb ⟨zm h.call.blk 9 _, zax h.call.low hb1 _, zax h.call.sow hb2 _, h.call.ap, h.call.lb, h.call.cB⟩, hkb⟩
theorem zd7.st_set (s' : Int) (h : zd7 W0 w K c lb cs cc b hv s cl m q pc lo st lq sq) : zd7 W0 (w.setCell ⟨K, 6, none⟩ (.int .i64 s')) K c lb cs cc b hv s' cl m q pc lo st lq sq /\ zci w (w.setCell ⟨K, 6, none⟩ (.int .i64 s')) := by
 obtain ⟨n1, _, n3⟩ := h.call.apart h.blk (by decide) (by decide)
 have hr : (Value.slice (some ⟨cs, 0, none⟩) 1 cc).ownBlock ≠ some K := fun e => by
   simp only [Value.ownBlock, Option.some.injEq] at e
   subst e
   rcases h.row.2 with ⟨h0, _⟩ | ⟨g2, _, cur, h0, _, hg2, _⟩
   . cases h0
   . simp only [Value.slice.injEq, Option.some.injEq, Addr.mk.injEq, and_true] at h0
     obtain ⟨e1, _⟩ := h0
     subst e1
     have h9 : w.heap[_]? = some (Obj.cells _ _ (0, 0)) := h.blk
     rw [h9] at hg2
     simp at hg2
 have hb1 : (hsV lo lq).ownBlock ≠ some K := zfd h.call.low h.blk (by decide)
 refine ⟨⟨zm h.blk 6 _, zax h.row hr _, ⟨zgk h.call.blk (fun e => n1 e.symm) _, zax h.call.low hb1 _, zax h.call.sow n3 _, h.call.ap, h.call.lb, h.call.cB⟩, h.bK, h.bel.setCell (p := ⟨K, 6, none⟩) h.bK _⟩, ?_⟩
 exact zci.grown h.blk (Or.inr (Or.inr (Or.inl rfl))) (zai (zp w K) 6 _)
end
theorem zmi (p : Addr) (w : World) :
   CallsD Tryz.prog 88 #[.pointer (some p)] .returning w fun e u' w' => e = .returned (.tuple #[]) /\ u' = .returning /\ w' = w := by
 refine callsD_of_wpS Tryz.func88 rfl fun c₀ cs hu => ?_
 apply wpS_seq
 apply wpS_region
 simp [wpOpsS, go_sem, recoverD, hu, Tryz.ntmps88, Exit.thenS]
 refine wpS_of_wp ?_
 simp only [show (24 : Nat) = 23 + 1 from rfl, Array.replicate, List.replicate, List.setIfInBounds_toArray, List.set_cons_zero, List.set_cons_succ, List.append_toArray, List.cons_append, List.nil_append]
 go_wp2_with fail
 cases c₀
 simp_all [bodyPostS, results, Tryz.results88]
theorem zxx (p : Addr) (w : World) :
   CallsD Tryz.prog 51 #[.pointer (some p)] .returning w fun e u' w' => e = .returned (.tuple #[]) /\ u' = .returning /\ w' = w := by
 refine callsD_of_wpS Tryz.func51 rfl fun c₀ cs hu => ?_
 apply wpS_seq
 apply wpS_region
 simp [wpOpsS, go_sem, recoverD, hu, Tryz.ntmps51, Exit.thenS]
 refine wpS_of_wp ?_
 simp only [show (18 : Nat) = 17 + 1 from rfl, Array.replicate, List.replicate, List.setIfInBounds_toArray, List.set_cons_zero, List.set_cons_succ, List.append_toArray, List.cons_append, List.nil_append]
 go_wp2_with fail
 cases c₀
 simp_all [bodyPostS, results, Tryz.results51]
def z6s (B c lb : Nat) (cl : Nm) (m : zo) (q : zaf) (pc : Int) (lo st lo' st' : List zbz) (lq sq : HA) (nx : Int) (w : World) (e : Ending) (w' : World) : Prop :=
 e = .returned (.int .i64 nx) /\ ∃ sq', za0 w' B c lb cl m q pc lo' st' lq sq' /\ KbR c lb (hsV st sq) w w' /\ VUp w (hsV st sq) (hsV st' sq')
theorem zup (K c : Nat) (ia ib : Int) (ty cl nm : Nm) (w : World) :
   Calls Tryz.prog 97 #[.pointer (some ⟨K, 0, none⟩), .pointer (some ⟨c, 0, none⟩), .agg #[.int .i64 4, .int .i64 ia, .int .i64 ib, .string ⟨⟨ty⟩⟩, .string ⟨⟨cl⟩⟩, .string ⟨⟨nm⟩⟩]] w fun e w' => e = .returned (.tuple #[]) /\ Below w.heap.size w w' := by
 have HB := Hq (fun o => ze (Below.refl w.heap.size w) o)
 go_enter Tryz.func97, Tryz.ntmps97
 go_wp2_with fail
 go_end0
 exact ⟨rfl, HB.out _⟩
theorem zno (B c lb : Nat) (cl : Nm) (m : zo) (q : zaf) (p a : Nat) (ib : Int) (lo st : List zbz) (v : zbz) (ty cn nm : Nm) (lq sq : HA) (w : World) (h : za0 w B c lb cl m q p lo st lq sq) (hp : p <= 1000) (hl : st.length <= 1000) (hll : lo.length <= 1000) (ha : lo[a]? = some v) :
   Calls Tryz.prog 96 #[.pointer (some ⟨c, 0, none⟩), .agg #[.int .i64 4, .int .i64 a, .int .i64 ib, .string ⟨⟨ty⟩⟩, .string ⟨⟨cn⟩⟩, .string ⟨⟨nm⟩⟩]] w (z6s B c lb cl m q p lo st lo (st ++ [v]) lq sq ((p : Int) + 1) w) := by
 obtain ⟨W, hW⟩ : ∃ W, W = w.alloc (.cells #[.int .i64 4, .int .i64 a, .int .i64 ib, .string ⟨⟨ty⟩⟩, .string ⟨⟨cn⟩⟩, .string ⟨⟨nm⟩⟩] 40) := ⟨_, rfl⟩
 have hbW : Below w.heap.size w W := by rw [hW]; exact ze (Below.refl _ _) _
 have HX := Hq (show Blk W w.heap.size 40 #[.int .i64 4, .int .i64 a, .int .i64 ib, .string ⟨⟨ty⟩⟩, .string ⟨⟨cn⟩⟩, .string ⟨⟨nm⟩⟩] by rw [hW]; exact zg _ _ _ _ rfl)
 have HS := Hq (h.below hbW)
 have HBW := Hq hbW
 obtain ⟨g, hga, hgl, _, k0, k1, _, _, hcap⟩ := z0s (h.below hbW).low ha
 have hal : a < lo.length := (List.getElem?_eq_some_iff.1 ha).1
 have i0 : (0 : Int) <= (a : Int) := Int.natCast_nonneg _
 have i1 : (a : Int) < (lo.length : Int) := by omega
 have c9 := HS.out.blk.cell 9
 have c10 := HS.out.blk.cell 10
 have c12 := HS.out.blk.lt
 have x0 := HX.out.cell 0
 have x1 := HX.out.cell 1
 have x9 := HX.out.lt
 unfold zea at c9 c10
 rw [hga] at c10
 have HPU := Hq (fun W' (hw : Below W.heap.size W W') => zhr B c lb cl m q p lo st v lq sq W' (HS.out.below hw) hl)
 unfold vV at HPU
 clear h ha hbW
 go_enter Tryz.func96, Tryz.ntmps96
 go_upto_region 1 with fail
 rw [<- hW]
 clear hW
 go_upto_region 8 with fail
 go_region_with (go_at_call 136; refine (HPU.out _ (Below.refl _ _).drew).mono ?_; rintro e w4 ⟨rfl, sq', hc4, hk4, hv4⟩)
 all_goals
   have HC4 := Hq hc4
   have HK4 := Hq (show KbR c lb (hsV st sq) w w4 from (KbR.of_below HBW.out).trans ((KbR.of_below (Below.refl _ _).drew).trans hk4 (VUp.refl _ _)) (VUp.refl _ _))
   have HV4 := Hq (show VUp w (hsV st sq) (hsV (st ++ [v]) sq') from by
     rcases hv4 with h | h
     . exact Or.inl h
     . exact Or.inr (fun k hk => Nat.le_trans HBW.out.size (h k hk)))
   clear hc4 hk4 hv4 c9 c10 x0 x1 k0 k1
   go_wp2_with fail
   go_ret
   exact ⟨rfl, sq', HC4.out, HK4.out, HV4.out⟩
theorem zs2 (W0 : World) (K c lb cs cc b : Nat) (hv : Value) (s : Int) (cl : Nm) (m : zo) (q : zaf) (p : Nat) (lo st lo' st' : List zbz) (nx : Int) (lq sq : HA) (x : zal) (w : World) (hM : zd7 W0 w K c lb cs cc b hv s cl m q p lo st lq sq) (hC : zcy W0 q.ca q.cc m.code) (hx : m.code[p]? = some x) (hml : m.code.length <= 1000)
   (h24 : (x.op == 24) = false) (h25 : (x.op == 25) = false) (h26 : (x.op == 26) = false) (h27 : (x.op == 27) = false) (h28 : (x.op == 28) = false)
   (hPL : ∀ W, Below w.heap.size w W -> Calls Tryz.prog 96 #[.pointer (some ⟨c, 0, none⟩), zfe x] W (z6s W0.heap.size c lb cl m q p lo st lo' st' lq sq nx W))
   (hHE : ∀ W, Calls Tryz.prog 97 #[.pointer (some ⟨K, 0, none⟩), .pointer (some ⟨c, 0, none⟩), zfe x] W fun e w' => e = .returned (.tuple #[]) /\ Below W.heap.size W w') :
   Calls Tryz.prog 52 #[.pointer (some ⟨K, 0, none⟩)] w fun e w' => e = .returned (.tuple #[]) /\ (∃ sq', zd7 W0 w' K c lb cs cc b hv s cl m q nx lo' st' lq sq' /\ KbR c lb (hsV st sq) w w' /\ VUp w (hsV st sq) (hsV st' sq')) /\ zci w w' := by
 have hmf : ∀ (fn : Fn) (first cap : Array Value) (w : World), (Instr.makeFunc fn first cap).run Tryz.prog w = .ok (.func fn first cap) w := fun _ _ _ _ => rfl
 obtain ⟨w1, hw1⟩ : ∃ w1, w1 = w.alloc (.cells #[.pointer (some ⟨K, 0, none⟩)] 83) := ⟨_, rfl⟩
 have hb1 : Below w.heap.size w w1 := by rw [hw1]; exact ze (Below.refl _ _) _
 have HP1 := Hq (show Blk w1 w.heap.size 83 #[.pointer (some ⟨K, 0, none⟩)] by rw [hw1]; exact zg _ _ _ _ rfl)
 have hM1 := hM.below hb1
 have HM1 := Hq hM1
 have HB1 := Hq hb1
 have HPL := Hq hPL
 have HHE := Hq hHE
 obtain ⟨hk1, hk2, hk3⟩ := hM1.csat
 have e0 := hM1.blk.cell 2
 have e1 := hM1.blk.lt
 have p0 := HP1.out.cell 0
 have p1 := HP1.out.lt
 have c8 := hM1.call.blk.cell 7
 have c9 := hM1.call.blk.cell 9
 have c10 := hM1.call.blk.lt
 obtain ⟨bi, off, hqa, hlt, i0, i1, i2, i3, i4, i5⟩ := (hC.below hM1.bel).cells hx
 have hpl : p < m.code.length := (List.getElem?_eq_some_iff.1 hx).1
 have hp0 : (0 : Int) <= (p : Int) := Int.natCast_nonneg _
 have hp1 : (p : Int) < (m.code.length : Int) := by omega
 unfold zbo at e0
 unfold zea at c8 c9
 rw [hqa] at c8
 have HC := Hq hC
 have HX := Hq hx
 have HQ := Hq hqa
 obtain ⟨op, ia, ib, ty, cn, nm⟩ := x
 unfold zfe at *
 dsimp only at h24 h25 h26 h27 h28
 clear hM hC hx hPL hHE hb1 hM1 hqa
 go_enter_defers Tryz.func52, Tryz.ntmps52
 go_upto_region 2 with fail
 rw [<- hw1]
 clear hw1
 go_region
 obtain ⟨w2, hw2⟩ : ∃ w2, w2 = w1.drew := ⟨_, rfl⟩
 have hb2 : Below w1.heap.size w1 w2 := by rw [hw2]; exact (Below.refl _ _).drew
 have hs2 : w2.heap.size = w1.heap.size := by rw [hw2]; rfl
 rw [<- hw2]
 have HM2 := Hq (HM1.out.below hb2)
 have HP2 := Hq (HP1.out.below hb2)
 have HB2 := Hq (zc HB1.out hb2)
 clear e0 e1 p0 p1 c8 c9 c10 i0 i1 i2 i3 i4 i5 hk1 hk2 hk3 hw2 hb2 hs2 hlt
 have HSC := Hq (fun W (hw : Below w2.heap.size w2 W) => (show W.cell? ⟨c, 7, none⟩ = some (.slice (some ⟨bi, off, none⟩) m.code.length q.cc) /\ W.cell? ⟨c, 9, none⟩ = some (.int .i64 p) /\ W.cell? ⟨bi, off + p * 6, none⟩ = some (.int .i64 op) /\ W.cell? ⟨bi, off + p * 6 + 1, none⟩ = some (.int .i64 ia) /\ W.cell? ⟨bi, off + p * 6 + 2, none⟩ = some (.int .i64 ib) /\ W.cell? ⟨bi, off + p * 6 + 3, none⟩ = some (.string ⟨⟨ty⟩⟩) /\ W.cell? ⟨bi, off + p * 6 + 4, none⟩ = some (.string ⟨⟨cn⟩⟩) /\ W.cell? ⟨bi, off + p * 6 + 5, none⟩ = some (.string ⟨⟨nm⟩⟩) from by
   obtain ⟨bi2, off2, hqa2, hlt2, i0, i1, i2, i3, i4, i5⟩ := (HC.out.below (HM2.out.below hw).bel).cells HX.out
   rw [HQ.out] at hqa2
   simp only [Option.some.injEq, Addr.mk.injEq, and_true] at hqa2
   obtain ⟨rfl, rfl⟩ := hqa2
   have c8 := (HM2.out.below hw).call.blk.cell 7
   have c9 := (HM2.out.below hw).call.blk.cell 9
   unfold zea at c8 c9
   rw [HQ.out] at c8
   exact ⟨c8, c9, i0, i1, i2, i3, i4, i5⟩))
 go_upto_region 3 with fail
 go_region_held3 (fun W' => W'.cell? ⟨c, 7, none⟩ = some (.slice (some ⟨bi, off, none⟩) m.code.length q.cc) /\ W'.cell? ⟨c, 9, none⟩ = some (.int .i64 p) /\ W'.cell? ⟨bi, off + p * 6, none⟩ = some (.int .i64 op) /\ W'.cell? ⟨bi, off + p * 6 + 1, none⟩ = some (.int .i64 ia) /\ W'.cell? ⟨bi, off + p * 6 + 2, none⟩ = some (.int .i64 ib) /\ W'.cell? ⟨bi, off + p * 6 + 3, none⟩ = some (.string ⟨⟨ty⟩⟩) /\ W'.cell? ⟨bi, off + p * 6 + 4, none⟩ = some (.string ⟨⟨cn⟩⟩) /\ W'.cell? ⟨bi, off + p * 6 + 5, none⟩ = some (.string ⟨⟨nm⟩⟩))
   (first | exact HSC.out _ (Below.refl _ _) | exact HSC.out _ (Below.refl _ _).drew | exact HSC.out _ (ze (Below.refl _ _) _) | exact HSC.out _ (ze (Below.refl _ _) _).drew | exact HSC.out _ (ze (Below.refl _ _).drew _))
   (fail)
 obtain ⟨w3, hw3⟩ : ∃ w3, w3 = (w2.alloc (.cells #[.int .i64 op, .int .i64 ia, .int .i64 ib, .string ⟨⟨ty⟩⟩, .string ⟨⟨cn⟩⟩, .string ⟨⟨nm⟩⟩] 40)).drew := ⟨_, rfl⟩
 have hb3 : Below w2.heap.size w2 w3 := by rw [hw3]; exact (ze (Below.refl _ _) _).drew
 have HX3 := Hq (show Blk w3 w2.heap.size 40 #[.int .i64 op, .int .i64 ia, .int .i64 ib, .string ⟨⟨ty⟩⟩, .string ⟨⟨cn⟩⟩, .string ⟨⟨nm⟩⟩] by rw [hw3]; exact (zg _ _ _ _ rfl).drew)
 have HM3 := Hq (HM2.out.below hb3)
 have HP3 := Hq (HP2.out.below hb3)
 have HB3 := Hq (zc HB2.out hb3)
 rw [<- hw3]
 clear hw3 hb3 HSC
 have x0 := HX3.out.cell 0
 have x1 := HX3.out.cell 1
 have x2 := HX3.out.cell 2
 have x3 := HX3.out.cell 3
 have x4 := HX3.out.cell 4
 have x5 := HX3.out.cell 5
 have x9 := HX3.out.lt
 go_wp2_with fail
 refine (HPL.out w3 HB3.out).mono ?_
 rintro e w4 ⟨rfl, sq', hc4, hk4, hv4⟩
 have HK4 := Hq (HM3.out.call.keepT hk4)
 have HM4 := Hq (HM3.out.keep hk4 hc4)
 have HKB4 := Hq (show KbR c lb (hsV st sq) w w4 from (KbR.of_below HB3.out).trans hk4 (VUp.refl _ _))
 have HV4 := Hq (show VUp w (hsV st sq) (hsV st' sq') from by
   rcases hv4 with h | h
   . exact Or.inl h
   . exact Or.inr (fun k hk => Nat.le_trans HB3.out.size (h k hk)))
 have HX4 := Hq (HK4.out _ _ _ (by unfold zsh; decide) HX3.out)
 have HP4 := Hq (HK4.out _ _ _ (by unfold zsh; decide) HP3.out)
 clear hc4 hk4 hv4 x0 x1 x2 x3 x4 x5 x9
 have x0 := HX4.out.cell 0
 have x1 := HX4.out.cell 1
 have x2 := HX4.out.cell 2
 have x3 := HX4.out.cell 3
 have x4 := HX4.out.cell 4
 have x5 := HX4.out.cell 5
 have x9 := HX4.out.lt
 have p0 := HP4.out.cell 0
 have p1 := HP4.out.lt
 go_wp2_with fail
 refine (HHE.out w4).mono ?_
 rintro e w5 ⟨rfl, hb5⟩
 have HM5 := Hq (HM4.out.below hb5)
 have HB5 := Hq hb5
 clear hb5 x0 x1 x2 x3 x4 x5 x9 p0 p1
 have c9 := HM5.out.call.blk.cell 9
 have c11 := HM5.out.call.blk.frozen 9
 have c10 := HM5.out.call.blk.lt
 unfold zea at c9
 obtain ⟨hm6, hk6⟩ := HM5.out.pc_set nx
 have HM6 := Hq hm6
 have HK6 := Hq (show zci w (w5.setCell ⟨c, 9, none⟩ (.int .i64 nx)) from ((zci.of_below HB3.out).trans HK4.out).trans ((zci.of_below HB5.out).trans (HM5.out.call.keepT hk6)))
 have HKB6 := Hq (show KbR c lb (hsV st sq) w (w5.setCell ⟨c, 9, none⟩ (.int .i64 nx)) from (HKB4.out.trans (KbR.of_below HB5.out) (VUp.refl _ _)).trans hk6 HV4.out)
 clear hm6 hk6
 go_wp2_with fail
 refine leaves_cons (f := 88) (args := #[.pointer (some ⟨w.heap.size, 0, none⟩)]) (by simp) (by simp [go_sem]) ?_
 refine (zmi _ _).mono ?_
 rintro e u' w9 ⟨rfl, rfl, rfl⟩
 simp [Leaves, settle, results, Tryz.results52, go_sem]
 exact ⟨⟨sq'.1, sq'.2, HM6.out, HKB6.out, HV4.out⟩, HK6.out⟩
theorem z00 (W0 : World) (K c lb cs cc b : Nat) (hv : Value) (s : Int) (cl : Nm) (m : zo) (q : zaf) (p : Nat) (lo st : List zbz) (v : zbz) (lq sq : HA) (x : zal) (w : World) (hM : zd7 W0 w K c lb cs cc b hv s cl m q p lo (st ++ [v]) lq sq) (hC : zcy W0 q.ca q.cc m.code) (hx : m.code[p]? = some x) (hml : m.code.length <= 1000) (hsl : st.length <= 1000)
   (h27 : x.op = 27) :
   Calls Tryz.prog 52 #[.pointer (some ⟨K, 0, none⟩)] w fun e w' => e = .returned (.tuple #[]) /\ (∃ cv, Blk w' K 86 (zbo b hv cv v.kind v.n [] s true)) /\ Below W0.heap.size W0 w' /\ zci w w' := by
 have hmf : ∀ (fn : Fn) (first cap : Array Value) (w : World), (Instr.makeFunc fn first cap).run Tryz.prog w = .ok (.func fn first cap) w := fun _ _ _ _ => rfl
 obtain ⟨w1, hw1⟩ : ∃ w1, w1 = w.alloc (.cells #[.pointer (some ⟨K, 0, none⟩)] 83) := ⟨_, rfl⟩
 have hb1 : Below w.heap.size w w1 := by rw [hw1]; exact ze (Below.refl _ _) _
 have HP1 := Hq (show Blk w1 w.heap.size 83 #[.pointer (some ⟨K, 0, none⟩)] by rw [hw1]; exact zg _ _ _ _ rfl)
 have hM1 := hM.below hb1
 have HM1 := Hq hM1
 have HB1 := Hq hb1
 obtain ⟨hk1, hk2, hk3⟩ := hM1.csat
 have e0 := hM1.blk.cell 2
 have e1 := hM1.blk.lt
 have p0 := HP1.out.cell 0
 have p1 := HP1.out.lt
 have c8 := hM1.call.blk.cell 7
 have c9 := hM1.call.blk.cell 9
 have c10 := hM1.call.blk.lt
 obtain ⟨bi, off, hqa, hlt, i0, i1, i2, i3, i4, i5⟩ := (hC.below hM1.bel).cells hx
 have hpl : p < m.code.length := (List.getElem?_eq_some_iff.1 hx).1
 have hp0 : (0 : Int) <= (p : Int) := Int.natCast_nonneg _
 have hp1 : (p : Int) < (m.code.length : Int) := by omega
 unfold zbo at e0
 unfold zea at c8 c9
 rw [hqa] at c8
 have HC := Hq hC
 have HX := Hq hx
 have HQ := Hq hqa
 obtain ⟨op, ia, ib, ty, cn, nm⟩ := x
 unfold zfe at *
 dsimp only at h27
 subst h27
 clear hM hC hx hb1 hM1 hqa
 go_enter_defers Tryz.func52, Tryz.ntmps52
 go_upto_region 2 with fail
 rw [<- hw1]
 clear hw1
 go_region
 obtain ⟨w2, hw2⟩ : ∃ w2, w2 = w1.drew := ⟨_, rfl⟩
 have hb2 : Below w1.heap.size w1 w2 := by rw [hw2]; exact (Below.refl _ _).drew
 have hs2 : w2.heap.size = w1.heap.size := by rw [hw2]; rfl
 rw [<- hw2]
 have HM2 := Hq (HM1.out.below hb2)
 have HP2 := Hq (HP1.out.below hb2)
 have HB2 := Hq (zc HB1.out hb2)
 clear e0 e1 p0 p1 c8 c9 c10 i0 i1 i2 i3 i4 i5 hk1 hk2 hk3 hw2 hb2 hs2 hlt
 have HSC := Hq (fun W (hw : Below w2.heap.size w2 W) => (show W.cell? ⟨c, 7, none⟩ = some (.slice (some ⟨bi, off, none⟩) m.code.length q.cc) /\ W.cell? ⟨c, 9, none⟩ = some (.int .i64 p) /\ W.cell? ⟨bi, off + p * 6, none⟩ = some (.int .i64 27) /\ W.cell? ⟨bi, off + p * 6 + 1, none⟩ = some (.int .i64 ia) /\ W.cell? ⟨bi, off + p * 6 + 2, none⟩ = some (.int .i64 ib) /\ W.cell? ⟨bi, off + p * 6 + 3, none⟩ = some (.string ⟨⟨ty⟩⟩) /\ W.cell? ⟨bi, off + p * 6 + 4, none⟩ = some (.string ⟨⟨cn⟩⟩) /\ W.cell? ⟨bi, off + p * 6 + 5, none⟩ = some (.string ⟨⟨nm⟩⟩) from by
   obtain ⟨bi2, off2, hqa2, hlt2, i0, i1, i2, i3, i4, i5⟩ := (HC.out.below (HM2.out.below hw).bel).cells HX.out
   rw [HQ.out] at hqa2
   simp only [Option.some.injEq, Addr.mk.injEq, and_true] at hqa2
   obtain ⟨rfl, rfl⟩ := hqa2
   have c8 := (HM2.out.below hw).call.blk.cell 7
   have c9 := (HM2.out.below hw).call.blk.cell 9
   unfold zea at c8 c9
   rw [HQ.out] at c8
   exact ⟨c8, c9, i0, i1, i2, i3, i4, i5⟩))
 go_upto_region 3 with fail
 go_region_held3 (fun W' => W'.cell? ⟨c, 7, none⟩ = some (.slice (some ⟨bi, off, none⟩) m.code.length q.cc) /\ W'.cell? ⟨c, 9, none⟩ = some (.int .i64 p) /\ W'.cell? ⟨bi, off + p * 6, none⟩ = some (.int .i64 27) /\ W'.cell? ⟨bi, off + p * 6 + 1, none⟩ = some (.int .i64 ia) /\ W'.cell? ⟨bi, off + p * 6 + 2, none⟩ = some (.int .i64 ib) /\ W'.cell? ⟨bi, off + p * 6 + 3, none⟩ = some (.string ⟨⟨ty⟩⟩) /\ W'.cell? ⟨bi, off + p * 6 + 4, none⟩ = some (.string ⟨⟨cn⟩⟩) /\ W'.cell? ⟨bi, off + p * 6 + 5, none⟩ = some (.string ⟨⟨nm⟩⟩))
   (first | exact HSC.out _ (Below.refl _ _) | exact HSC.out _ (Below.refl _ _).drew | exact HSC.out _ (ze (Below.refl _ _) _) | exact HSC.out _ (ze (Below.refl _ _) _).drew | exact HSC.out _ (ze (Below.refl _ _).drew _))
   (fail)
 obtain ⟨w3, hw3⟩ : ∃ w3, w3 = (w2.alloc (.cells #[.int .i64 27, .int .i64 ia, .int .i64 ib, .string ⟨⟨ty⟩⟩, .string ⟨⟨cn⟩⟩, .string ⟨⟨nm⟩⟩] 40)).drew := ⟨_, rfl⟩
 have hb3 : Below w2.heap.size w2 w3 := by rw [hw3]; exact (ze (Below.refl _ _) _).drew
 have HX3 := Hq (show Blk w3 w2.heap.size 40 #[.int .i64 27, .int .i64 ia, .int .i64 ib, .string ⟨⟨ty⟩⟩, .string ⟨⟨cn⟩⟩, .string ⟨⟨nm⟩⟩] by rw [hw3]; exact (zg _ _ _ _ rfl).drew)
 have HM3 := Hq (HM2.out.below hb3)
 have HP3 := Hq (HP2.out.below hb3)
 have HB3 := Hq (zc HB2.out hb3)
 rw [<- hw3]
 clear hw3 hb3 HSC
 have p0 := HP3.out.cell 0
 have p1 := HP3.out.lt
 have x0 := HX3.out.cell 0
 have x9 := HX3.out.lt
 obtain ⟨n1, n2, n3⟩ := HM3.out.call.apart HP3.out (by decide) (by decide)
 obtain ⟨m1, m2, m3⟩ := HM3.out.call.apart HM3.out.blk (by decide) (by decide)
 have HPO := Hq (fun W (hw : Below w3.heap.size w3 W) => zhe W0.heap.size c lb cl m q p lo st v lq sq W (HM3.out.below hw).call hsl)
 have HLV := Hq (fun W' hk => zsn K b cs cc hv s v W' hk)
 have HPC := Hq (fun W (hw : Below w3.heap.size w3 W) => show W.cell? ⟨w.heap.size, 0, none⟩ = some (.pointer (some ⟨K, 0, none⟩)) from (HP3.out.below hw).cell 0)
 have HKB := Hq (fun W W' (hw : Below w3.heap.size w3 W) (hg : W.grownBy W' (some c)) => zac hg (HM3.out.below hw).blk m1)
 have HKT := Hq (fun W W' (hw : Below w3.heap.size w3 W) (hg : W.grownBy W' (some c)) => show zci w3 W' /\ Below W0.heap.size W0 W' from ⟨(zci.of_below hw).trans (zci.grown (HM3.out.below hw).call.blk (Or.inr (Or.inl rfl)) hg), zh3 (zc HM3.out.bel hw) hg HM3.out.call.cB (by have := (HM3.out.below hw).bel.size; exact this)⟩)
 have hwK : w.heap.size ≠ K := fun e => by
   have h1 : w3.heap[w.heap.size]? = some (.cells _ _ (0, 0)) := HP3.out
   have h2 : w3.heap[K]? = some (.cells _ _ (0, 0)) := HM3.out.blk
   rw [e, h2] at h1
   simp at h1
 have HP5 := Hq (fun (W W' : World) (hp : Blk W w.heap.size 83 #[.pointer (some ⟨K, 0, none⟩)]) (_ : Blk W K 86 (zbo b hv (.slice (some ⟨cs, 0, none⟩) 1 cc) 0 0 [] s false)) (hg : W.grownBy W' (some K)) => zac hg hp hwK)
 have HPB := Hq (fun W W' (hw : Below w3.heap.size w3 W) (hg : W.grownBy W' (some c)) => (zac hg (HP3.out.below hw) n1))
 unfold vV at HPO HLV
 go_upto_region 14 with fail
 go_region_held3 (fun W' => W'.cell? ⟨w.heap.size, 0, none⟩ = some (.pointer (some ⟨K, 0, none⟩)))
   (first | exact HPC.out _ (Below.refl _ _) | exact HPC.out _ (Below.refl _ _).drew | exact p2 | exact p4)
   ((first
   | (go_at_call 94
      refine (HPO.out _ (by first | exact Below.refl _ _ | exact (Below.refl _ _).drew)).mono ?_
      rintro e w4 ⟨rfl, hc4, hg4⟩
      have hgB := HPB.out _ w4 (by first | exact Below.refl _ _ | exact (Below.refl _ _).drew) hg4
      have p2 := hgB.cell 0
      have hkM := HKB.out _ w4 (by first | exact Below.refl _ _ | exact (Below.refl _ _).drew) hg4
      have hkT := HKT.out _ w4 (by first | exact Below.refl _ _ | exact (Below.refl _ _).drew) hg4)
   | (go_at_call 93
      refine (HLV.out w4 hkM).mono ?_
      rintro e w5 ⟨rfl, hk5, hg5⟩
      have p4 := (HP5.out w4 w5 hgB hkM hg5).cell 0)))
 have HK5 := Hq hk5
 have HKT5 := Hq (show zci w w5 from ((zci.of_below HB3.out).trans hkT.1).trans (zci.grown hkM (Or.inr (Or.inr (Or.inl rfl))) hg5))
 have HBW5 := Hq (show Below W0.heap.size W0 w5 from zh3 hkT.2 hg5 HM3.out.bK hkT.2.size)
 clear hk5 hg5 hkT hkM hgB p2 p4 hc4 hg4 p0 p1 x0 x9
 go_wp2_with fail
 refine leaves_cons (f := 88) (args := #[.pointer (some ⟨w.heap.size, 0, none⟩)]) (by simp) (by simp [go_sem]) ?_
 refine (zmi _ _).mono ?_
 rintro e u' w9 ⟨rfl, rfl, rfl⟩
 simp [Leaves, settle, results, Tryz.results52, go_sem]
 exact ⟨⟨_, HK5.out⟩, HBW5.out, HKT5.out⟩
end Go.Proofs.YtbnkckjdgpiggaaGreatDoor
