/-
  MapsHigher: the walk of the law.
-/
import Derived.Test.YtfddgdbebhmcnaaGreatDoorMd
import Derived.Test.YtfddgdbebhmcnaaGreatDoorFrm8
import Derived.Test.YtfddgdbebhmcnaaGreatDoorFrmOpen
import Derived.Test.YtfddgdbebhmcnaaGreatDoorWc
import Derived.Test.YtfddgdbebhmcnaaGreatDoorFrame
import Derived.BigQuiet
import Derived.Deep.QuietTactic
namespace Go.Proofs.YtfddgdbebhmcnaaGreatDoor
set_option linter.unusedVariables false
set_option linter.unusedSimpArgs false
open Go.RowKit Go.Shelf Go.Lib Go.Sort
theorem turn_at (n : Int) (L : Nat) (h0 : 0 < L) (hL : L ≤ 1000000000) : ∃ k : Nat, k < L ∧ (IntKind.u64.wrap n).tmod (IntKind.u64.wrap (L : Int)) = (k : Int) := by
  have h1 : IntKind.u64.wrap (L : Int) = L := by rw [IntKind.wrap_u64]; omega
  have h2 : 0 ≤ IntKind.u64.wrap n := by rw [IntKind.wrap_u64]; omega
  rw [h1]
  refine ⟨((IntKind.u64.wrap n).tmod L).toNat, ?_, ?_⟩
  · have := Int.tmod_lt_of_pos (IntKind.u64.wrap n) (show (0 : Int) < L by omega)
    have h3 := Int.tmod_nonneg (L : Int) h2
    omega
  · have h3 := Int.tmod_nonneg (L : Int) h2
    omega
theorem mp_ones {X : List (Nat × FrR)} {qs : List FAddr} : ∀ u ∈ (List.zipWith mpCells X qs).flatten, u.oneCell' = true := by
  intro u hu
  obtain ⟨cs, h1, h2⟩ := List.mem_flatten.1 hu
  obtain ⟨i, h3⟩ := List.mem_iff_getElem?.1 h1
  rw [List.getElem?_zipWith] at h3
  split at h3
  · cases h3
    simp only [mpCells, List.mem_cons, List.not_mem_nil, or_false] at h2
    rcases h2 with rfl | rfl | rfl <;> rfl
  · cases h3
theorem sc_other {w : World} {g i j : Nat} {u : Value} (h : i ≠ j) : (w.setCell ⟨g, i, none⟩ u).cell? ⟨g, j, none⟩ = w.cell? ⟨g, j, none⟩ := World.cell?_setCell_other _ _ _ _ (by simp [h])
theorem mp_set {w : World} {g C kk : Nat} {X : List (Nat × FrR)} {qs : List FAddr} {x : Nat × FrR} {f : FrR} {q : FAddr} (h : RowsAt w 3 (some ⟨g, 0, none⟩) C (List.zipWith mpCells X qs)) (hl : qs.length = X.length) (hx : X[kk]? = some x)
    (k1 : (w.cell? ⟨g, kk * 3 + 1, none⟩).isSome = true) (k2 : (w.cell? ⟨g, kk * 3 + 2, none⟩).isSome = true) (hlt : g < w.heap.size) :
    RowsAt ((w.setCell ⟨g, kk * 3 + 1, none⟩ (.slice q.la f.loc.length q.lc)).setCell ⟨g, kk * 3 + 2, none⟩ (.slice q.sa f.st.length q.sc)) 3 (some ⟨g, 0, none⟩) C (List.zipWith mpCells (X.set kk (x.1, f)) (qs.set kk q)) := by
  obtain ⟨hc, h2 | ⟨b, off, hb, _, hh⟩⟩ := h
  · have h3 : (List.zipWith mpCells X qs).length = X.length := by rw [List.length_zipWith]; omega
    rw [h2] at h3
    have := (List.getElem?_eq_some_iff.1 hx).1
    simp at h3; omega
  simp only [Option.some.injEq, Addr.mk.injEq, and_true] at hb
  obtain ⟨rfl, rfl⟩ := hb
  have hk := (List.getElem?_eq_some_iff.1 hx).1
  refine ⟨by simpa using hc, Or.inr ⟨g, 0, rfl, by simpa [World.setCell] using hlt, fun k cs hcs j u hu => ?_⟩⟩
  rw [List.getElem?_zipWith] at hcs
  by_cases e : k = kk
  · subst e
    rw [List.getElem?_set_self hk, List.getElem?_set_self (by omega)] at hcs
    simp only [Option.some.injEq] at hcs
    subst hcs
    obtain ⟨q0, hq0⟩ : ∃ q0, qs[k]? = some q0 := ⟨_, List.getElem?_eq_getElem (by omega)⟩
    have hz : (List.zipWith mpCells X qs)[k]? = some (mpCells x q0) := by rw [List.getElem?_zipWith, hx, hq0]
    match j, hu with
    | 0, hu =>
      rw [sc_other (i := k * 3 + 2) (j := 0 + k * 3 + 0) (by omega), sc_other (i := k * 3 + 1) (j := 0 + k * 3 + 0) (by omega)]
      exact hh k _ hz 0 u (by simpa [mpCells] using hu)
    | 1, hu =>
      rw [sc_other (i := k * 3 + 2) (j := 0 + k * 3 + 1) (by omega), show 0 + k * 3 + 1 = k * 3 + 1 by omega, World.cell?_setCell_same' _ _ _ k1]
      simpa [mpCells] using hu
    | 2, hu =>
      rw [show 0 + k * 3 + 2 = k * 3 + 2 by omega, World.cell?_setCell_same' _ _ _ (by rw [sc_other (i := k * 3 + 1) (j := k * 3 + 2) (by omega)]; exact k2)]
      simpa [mpCells] using hu
    | j + 3, hu => simp [mpCells] at hu
  · rw [List.getElem?_set_ne (fun h => e h.symm), List.getElem?_set_ne (fun h => e h.symm)] at hcs
    have hz : (List.zipWith mpCells X qs)[k]? = some cs := by rw [List.getElem?_zipWith]; exact hcs
    have hj : j < 3 := by
      split at hcs
      · cases hcs
        have := (List.getElem?_eq_some_iff.1 hu).1
        simp [mpCells] at this; omega
      · cases hcs
    rw [sc_other (i := kk * 3 + 2) (j := 0 + k * 3 + j) (by omega), sc_other (i := kk * 3 + 1) (j := 0 + k * 3 + j) (by omega)]
    exact hh k cs hz j u hu
theorem type_form (W : World) : (binOp BinOp.eql 25 (errV 7) (.iface 53 (.int .i64 7))).run Tryz.prog W = .ok (.bool true) W := by kernel_rfl
set_option maxRecDepth 100000 in
set_option maxHeartbeats 16000000 in
theorem mapsHigher_go (l : List ClassR) (ps : List CAddr) (a : Option Addr) (cap : Nat) (c : Nm) (z i : Int) (f : FrR) (q : FAddr) (w : World) (hC : ClassesAt w a cap l ps) (hF : FormsAt w) (hB : ClsOk l) (hc : c.length ≤ 1048576) (hf : FrAt w f q) (hfb : FrB f) :
    Calls Tryz.prog 5 #[.slice a l.length cap, .string ⟨⟨c⟩⟩, .int .i64 z, .int .i64 i, frV f q] w fun e w' => e = .returned (.bool true) ∧ Below w.heap.size w w' := by
  have HC := Hd hC
  have HF := Hd hF
  have HB := Hd hB
  have HFR := Hd hf
  have HFB := Hd hfb
  have HB0 := Hd (bl_alloc (Below.refl w.heap.size w) (.cells #[.slice q.la f.loc.length q.lc, .slice q.sa f.st.length q.sc] 60))
  have HX0 := Hd (show Blk (w.alloc (.cells #[.slice q.la f.loc.length q.lc, .slice q.sa f.st.length q.sc] 60)) w.heap.size 60 #[.slice q.la f.loc.length q.lc, .slice q.sa f.st.length q.sc] from blk_new _ _ _ _ rfl)
  clear hC hF hB hf hfb
  unfold frV
  go_enter Tryz.func5, Tryz.ntmps5
  go_wp2_with fail
  refine (named_true _).mono ?_
  rintro e w1 ⟨rfl, hb1⟩
  have HB1 := Hd (bl_trans HB0.out hb1)
  have HX1 := Hd (HX0.out.below hb1)
  have HM := Hd (cmethod_exact l ps a cap c z w1 (HC.out.below HB1.out) (HF.out.below HB1.out) HB.out (tyB_of HB.out) hc)
  clear hb1 HX0
  go_wp2_with fail
  refine HM.out.mono ?_
  rintro e w2 ⟨hb2, ⟨hne, v, rfl⟩ | ⟨d, m, fr, v, B, D, hn, hd, hfd, hm, hab, hlk, hfr, rfl, hmp, hge⟩⟩
  · have HB2 := Hd (bl_trans HB1.out hb2)
    have HNE := Hd hne
    clear hb2
    go_wp2_with fail
    go_ret
    exact ⟨rfl, HB2.out⟩
  have HB2 := Hd (bl_trans HB1.out hb2)
  have HX2 := Hd (HX1.out.below hb2)
  have HN := Hd hn
  have HGD := Hd (show Good l from (readErr_zero l).1 (by
    by_cases h : readErr l = 0
    · exact h
    · exfalso; unfold namErr at hn; rw [if_pos h] at hn; exact h hn))
  have HD := Hd hd
  have HFD := Hd hfd
  have HMM := Hd hm
  have HAB := Hd hab
  have HLK := Hd hlk
  have HFRS := Hd hfr
  obtain ⟨X, hX⟩ : ∃ X, X = mapsUp fr m.code.length := ⟨_, rfl⟩
  rw [← hX] at hmp
  have HX := Hd hX
  obtain ⟨qs, hql, how, hqf⟩ := hmp
  have hzl : (List.zipWith mpCells X qs).length = X.length := by rw [List.length_zipWith]; omega
  obtain ⟨A, C, rfl, hrows⟩ := rows_of_own (L := List.zipWith mpCells X qs) (by rw [hzl]; exact how) (fun cs hcs => by
    obtain ⟨i, h3⟩ := List.mem_iff_getElem?.1 hcs
    rw [List.getElem?_zipWith] at h3
    split at h3
    · cases h3; rfl
    · cases h3)
  rw [hzl] at how ⊢
  have HMI := Hd (show MapsIn w2 A C X qs from ⟨hql, hrows, fun k x q h1 h2 => (hqf k x q h1 h2).1⟩)
  have HOW := Hd how
  clear hb2 hn hd hfd hm hab hlk hfr hX how hrows hqf hge HX1 HM
  by_cases h0 : X.length = 0
  · rw [h0]
    go_wp2_with fail
    go_ret
    exact ⟨rfl, HB2.out⟩
  have hX40 : X.length ≤ 40 := by
    have h1 := mapsUp_len fr m.code.length
    have h2 := (good_mok HGD.out HD.out (List.mem_of_getElem? HMM.out) HAB.out).flow.len
    rw [HX.out]; omega
  have hx0 : ¬ X = [] := fun h => h0 (by rw [h]; rfl)
  obtain ⟨kk, hkk, ekk⟩ := turn_at i X.length (by omega) (by omega)
  have hu1 : IntKind.u64.wrap (X.length : Int) = (X.length : Int) := by rw [IntKind.wrap_u64]; omega
  rw [hu1] at ekk
  clear hu1
  obtain ⟨x, hx⟩ : ∃ x, X[kk]? = some x := ⟨_, List.getElem?_eq_getElem hkk⟩
  obtain ⟨bm, off, qx, hA, hltm, hqx, hfx, c0, c1, c2⟩ := HMI.out.cells hx
  subst hA
  have hka0 : (0 : Int) ≤ (kk : Int) := Int.natCast_nonneg _
  have hkai : (kk : Int) < (X.length : Int) := by omega
  have HXK := Hd hx
  have HQX := Hd hqx
  have HFX := Hd hfx
  have hxb : FrB x.2 := fun y hy => by
    have h8 := (HFRS.out _ _ (mapsUp_mem.1 (by rw [← HX.out]; exact List.mem_of_getElem? hx)).2).1.kn y hy
    by_cases e1 : y = [78] ∨ y = [84]
    · rcases e1 with e | e <;> rw [e] <;> simp
    · by_cases e2 : TypeOk y
      · have := type_len25 e2; omega
      · rw [kind_bad e1 e2] at h8; cases h8
  obtain ⟨S, E, hSE, hcalls⟩ : ∃ (S : Bool) (E : Value), ((fjErr l x.2 f ≠ 0 ∧ S = false ∧ E = errV (fjErr l x.2 f)) ∨ (fjErr l x.2 f = 0 ∧ S = sameB (joinF (wl l) x.2 f) f ∧ E = .nilIface)) ∧
      ∀ W, Below w2.heap.size w2 W → Calls Tryz.prog 22 #[.slice a l.length cap, .agg #[.slice qx.la x.2.loc.length qx.lc, .slice qx.sa x.2.st.length qx.sc], .agg #[.slice q.la f.loc.length q.lc, .slice q.sa f.st.length q.sc]] W fun e w' => e = .returned (.tuple #[.bool S, E]) ∧ Below W.heap.size W w' := by
    by_cases hz : fjErr l x.2 f = 0
    · refine ⟨_, _, Or.inr ⟨hz, rfl, rfl⟩, fun W hW => (below_any l ps a cap x.2 f qx q W (HC.out.below (bl_trans HB2.out hW)) (HF.out.below (bl_trans HB2.out hW)) HB.out (hfx.below hW) (HFR.out.below (bl_trans HB2.out hW)) hxb HFB.out).mono ?_⟩
      rintro e w' ⟨hb, ⟨hne, _⟩ | ⟨_, rfl⟩⟩
      · exact absurd hz hne
      · exact ⟨rfl, hb⟩
    · refine ⟨_, _, Or.inl ⟨hz, rfl, rfl⟩, fun W hW => (below_any l ps a cap x.2 f qx q W (HC.out.below (bl_trans HB2.out hW)) (HF.out.below (bl_trans HB2.out hW)) HB.out (hfx.below hW) (HFR.out.below (bl_trans HB2.out hW)) hxb HFB.out).mono ?_⟩
      rintro e w' ⟨hb, ⟨_, rfl⟩ | ⟨h, _⟩⟩
      · exact ⟨rfl, hb⟩
      · exact absurd h hz
  have HSE := Hd hSE
  have HCB := Hd hcalls
  have HG := Hd (fun (d : Nat) (os : Array Obj) => below_regrown w2 d os)
  have g0 := fun (d : Nat) (os : Array Obj) => (show (grow (redrawn w2 d) os).cell? ⟨bm, off + kk * 3 + 1, none⟩ = some (.slice qx.la x.2.loc.length qx.lc) from ((HG.out d os).cell (p := ⟨bm, off + kk * 3 + 1, none⟩) hltm).trans c1)
  have g1 := fun (d : Nat) (os : Array Obj) => (show (grow (redrawn w2 d) os).cell? ⟨bm, off + kk * 3 + 2, none⟩ = some (.slice qx.sa x.2.st.length qx.sc) from ((HG.out d os).cell (p := ⟨bm, off + kk * 3 + 2, none⟩) hltm).trans c2)
  have g2 := fun (d : Nat) (os : Array Obj) => (show (grow (redrawn w2 d) os).cell? ⟨w.heap.size, 0, none⟩ = some (.slice q.la f.loc.length q.lc) from (HX2.out.below (HG.out d os)).cell 0)
  have g3 := fun (d : Nat) (os : Array Obj) => (show (grow (redrawn w2 d) os).cell? ⟨w.heap.size, 1, none⟩ = some (.slice q.sa f.st.length q.sc) from (HX2.out.below (HG.out d os)).cell 1)
  have y0 := HX2.out.cell 0
  clear hx hqx hfx c0 c1 c2 hxb hSE hcalls
  go_upto_region 8 with fail
  refine wp_region_quiet_below (by kernel_rfl) (by kernel_rfl) ?_
  repeat (first | go_big_quiet_step (exact Calls.regrown_of (HCB.out _ (HG.out _ _))) | quiet_step (exact Calls.regrown_of (HCB.out _ (HG.out _ _))))
  refine wpQuiet_nil ?_
  intro _ hw'
  obtain ⟨⟨dq, osq⟩, hw''⟩ := hw'
  subst hw''
  have HB5 := Hd (HG.out dq osq)
  clear g0 g1 g2 g3 y0 HG
  generalize grow (redrawn w2 dq) osq = w5 at *
  have HX5 := Hd (HX2.out.below HB5.out)
  have HS5 := Hd (fun o => SrcRow.of_own (own_below HOW.out (bl_alloc HB5.out o)) mp_ones)
  go_wp2_with (at_builtin; refine wpList_append_src rowMap rfl _ _ rfl w5.heap.size _ 0 [] rfl ?c0 _ X.length (List.zipWith mpCells X qs).flatten rfl (HS5.out _) ?c2 ?c3 ?c4 ?_)
  case c0 => exact World.ownsRow_lit _ _ 0 (Nat.le_refl _) (by unfold maxLen; omega) rfl
  case c2 => omega
  case c3 => omega
  case c4 => simp
  intro v9 w6 ho hg
  have ho2 := ho
  obtain ⟨hl9, ⟨_, hx9⟩ | ⟨g9, C9, cur, rfl, hg9, hcl, hC9, ha1, ha2, ha3⟩⟩ := ho
  · exact absurd hx9 h0
  have hb56 : Below w5.heap.size w5 w6 := (bl_alloc (Below.refl _ _) _).grown hg (by simp) (fun k hk => by cases hk; exact Nat.le_refl _)
  have HB6 := Hd (bl_trans HB2.out (bl_trans HB5.out hb56))
  have HB56 := Hd hb56
  obtain ⟨A9, C9', hv9, hrows9⟩ := rows_of_own (L := List.zipWith mpCells X qs) (by rw [hzl]; exact ho2) (fun cs hcs => by
    obtain ⟨i, h3⟩ := List.mem_iff_getElem?.1 hcs
    rw [List.getElem?_zipWith] at h3
    split at h3
    · cases h3; rfl
    · cases h3)
  simp only [Value.slice.injEq] at hv9
  obtain ⟨rfl, hxx, rfl⟩ := hv9
  have HMI6 := Hd (show MapsIn w6 (some ⟨g9, 0, none⟩) C9 X qs from ⟨hql, hrows9, fun k y r h1 h2 => (HMI.out.frs k y r h1 h2).below (bl_trans HB5.out hb56)⟩)
  have HX6 := Hd (HX5.out.below hb56)
  obtain ⟨bm2, off2, qx2, hA2, hlt9, hqx2, hfx2, k0, k1, k2⟩ := HMI6.out.cells HXK.out
  simp only [Option.some.injEq, Addr.mk.injEq, and_true] at hA2
  obtain ⟨rfl, rfl⟩ := hA2
  obtain rfl : qx = qx2 := by have := HQX.out; rw [hqx2] at this; cases this; rfl
  rw [Nat.zero_add] at k0 k1 k2
  have y0 := HX6.out.cell 0
  have y1 := HX6.out.cell 1
  have y2 := HX6.out.lt
  have hgw : w.heap.size < g9 := by have h1 := HB5.out.size; have h2 := HX2.out.lt; omega
  have k3 : w6.frozen? ⟨g9, kk * 3 + 1, none⟩ = false := by simp [World.frozen?, hcl]
  have k4 : w6.frozen? ⟨g9, kk * 3 + 2, none⟩ = false := by simp [World.frozen?, hcl]
  have HZL := Hd hzl
  clear hb56 ho2 hl9 hg hrows9 hfx2 hqx2 hcl HS5 HX5 hxx ha1 ha2 ha3 hzl
  obtain ⟨W, hW⟩ : ∃ W, W = (w6.setCell ⟨g9, kk * 3 + 1, none⟩ (.slice q.la f.loc.length q.lc)).setCell ⟨g9, kk * 3 + 1 + 1, none⟩ (.slice q.sa f.st.length q.sc) := ⟨_, rfl⟩
  have hs1 : w2.heap.size ≤ g9 := Nat.le_trans HB5.out.size hg9
  have HB2W := Hd (show Below w2.heap.size w2 W from by
    rw [hW]
    exact ((bl_trans HB5.out HB56.out).setCell (p := ⟨g9, kk * 3 + 1, none⟩) hs1 _).setCell (p := ⟨g9, kk * 3 + 1 + 1, none⟩) hs1 _)
  have HBW := Hd (bl_trans HB2.out HB2W.out)
  have HMW := Hd (show MapsIn W (some ⟨g9, 0, none⟩) C9 (X.set kk (x.1, f)) (qs.set kk q) from by
    refine ⟨by simp [hql], ?_, fun k y r h1 h2 => ?_⟩
    · rw [hW]
      exact mp_set HMI6.out.rows hql HXK.out (by rw [k1]; rfl) (by rw [k2]; rfl) hlt9
    · by_cases e : k = kk
      · subst e
        rw [List.getElem?_set_self hkk] at h1
        rw [List.getElem?_set_self (by omega)] at h2
        cases h1; cases h2
        exact HFR.out.below HBW.out
      · rw [List.getElem?_set_ne (fun h => e h.symm)] at h1 h2
        exact (HMI.out.frs k y r h1 h2).below HB2W.out)
  have HPL := Hd (fun h0 hs => higher_no (c := c) (k := kk) (x := x) (f := f) HGD.out (good_mok HGD.out HD.out (List.mem_of_getElem? HMM.out) HAB.out) HLK.out HFRS.out (by rw [← HX.out]; exact HXK.out) h0 hs)
  have HAC := Hd (fun (hz0 : fjErr l x.2 f = 0) => accept_calls l ps a cap c z (X.set kk (x.1, f)) (qs.set kk q) (some ⟨g9, 0, none⟩) C9 d m W (HC.out.below HBW.out) (HF.out.below HBW.out) HB.out hc HGD.out HN.out HD.out HFD.out HMM.out HMW.out
    (by rw [HX.out]; exact incr_set (mapsUp_incr _ _) (by rw [← HX.out]; exact HXK.out))
    (fun y hy => by
      obtain ⟨i, hi⟩ := List.mem_iff_getElem?.1 hy
      obtain ⟨a', h1, h2, _⟩ := set_get HXK.out hi
      rw [← h2]
      have h3 := List.mem_of_getElem? h1
      rw [HX.out] at h3
      exact (mapsUp_mem.1 h3).1)
    (fun y hy => by
      obtain ⟨i, hi⟩ := List.mem_iff_getElem?.1 hy
      obtain ⟨a', h1, _, ⟨_, rfl⟩ | ⟨_, rfl⟩⟩ := set_get HXK.out hi
      · obtain ⟨⟨h1, h2⟩, h3⟩ := chk_zero.1 (fj_zero.1 hz0).2.2.1
        exact ⟨h1, h2, h3⟩
      · have h3 := List.mem_of_getElem? h1
        rw [HX.out] at h3
        exact (HFRS.out _ _ (mapsUp_mem.1 h3).2).1)
    (by rw [List.length_set]; exact hX40))
  rcases HSE.out with ⟨hne, rfl, rfl⟩ | ⟨hz0, hS, rfl⟩
  · clear hne
    go_wp2_with fail
    rw [← hW]
    go_wp2_with fail
    go_ret
    exact ⟨rfl, HBW.out⟩
  · have HAC2 := Hd (HAC.out hz0)
    have HZ0 := Hd hz0
    have HSS := Hd hS
    clear HAC hz0 hS
    cases S with
    | true =>
      go_wp2_with fail
      rw [← hW]
      go_wp2_with fail
      go_ret
      exact ⟨rfl, HBW.out⟩
    | false =>
      have HN2 := Hd (HPL.out HZ0.out HSS.out.symm)
      rw [← HX.out] at HN2
      rw [HN2.out, List.length_set] at HAC2
      go_wp2_with fail
      rw [← hW]
      clear hW k0 k1 k2 k3 k4 y0 y1 y2
      go_wp2_with fail
      refine HAC2.out.mono ?_
      rintro e w9 ⟨rfl, hb9⟩
      have HB9 := Hd (bl_trans HBW.out hb9)
      have hte := type_form w9
      clear hb9
      go_wp2_with fail
      go_ret
      exact ⟨rfl, HB9.out⟩
set_option maxRecDepth 100000 in
theorem mapsHigher.walk {H : Type} {enc : TypeId × Value → H} {W : World} {base : Nat}
    {v0 : Value} {d0 : DataW H} {p0 : List MemPlace} (hv0 : Value.okWide Tryz.prog W .any base 22 v0) (h0 : DataW.Trod enc Tryz.prog W 0 (fun _ => true) true 22 v0 d0 p0)
    (s1 : ByteArray) (hs1 : s1.size ≤ maxLen) (hr1 : s1.data.toList.length ≤ reachBytes)
    (n2 : Int) (wf2 : (Lit.int .i64 n2).wf = true)
    (n3 : Int) (wf3 : (Lit.int .i64 n3).wf = true)
    {v4 : Value} {d4 : DataW H} {p4 : List MemPlace} (hv4 : Value.okWide Tryz.prog W .any base 60 v4) (h4 : DataW.Trod enc Tryz.prog W 0 (fun _ => true) true 60 v4 d4 p4)
    (W' : World) (hW : W' = W) (hL : laidMetH Tryz.prog Rows.mapsHigherUptoRow.laid W) {S : Prop} (_ : S) (hbulk : Rows.uptoBulkAll [d0, DataW.lit (.string s1.data.toList), DataW.lit (.int .i64 n2), DataW.lit (.int .i64 n3), d4] ≤ 1048576) :
    Calls Tryz.prog 5 #[v0, .string s1, .int .i64 n2, .int .i64 n3, v4] W' fun e w' => e = .returned (.bool true) ∧ Below W'.heap.size W' w' := by
  subst hW
  obtain ⟨a0, len0, cap0, rfl⟩ := WideShapes.okWide_slice Tryz.underlying22 hv0
  obtain ⟨fuel0, hf0⟩ := h0
  obtain ⟨aa0, cc0, l0, ps0, hcs0, hC0, hll0, ht0⟩ := open_classes hf0
  simp only [Value.cells, List.cons.injEq, and_true] at hcs0
  rw [hcs0]
  obtain ⟨⟨x1⟩⟩ := s1
  obtain ⟨f4, q4, rfl, hfr4, hfb4⟩ := open_frameV hv4 h4
  simp only [Rows.uptoBulkAll, Rows.uptoBulk] at hbulk
  exact mapsHigher_go l0 ps0 aa0 cc0 x1 n2 n3 f4 q4 W' hC0 (forms_of_laid hL (by kernel_rfl)) (ht0 (by omega)) (by omega) hfr4 (hfb4 (by omega))
end Go.Proofs.YtfddgdbebhmcnaaGreatDoor
