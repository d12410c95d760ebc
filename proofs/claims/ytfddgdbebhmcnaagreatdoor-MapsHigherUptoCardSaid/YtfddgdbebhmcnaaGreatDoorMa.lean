/-
  The walk of check.Method: the frames of its places, exact.
  The walks of frame.Check and of the walker's meets; a walker in memory.
-/
import Derived.Test.YtfddgdbebhmcnaaGreatDoorCe
import Derived.Test.YtfddgdbebhmcnaaGreatDoorPn
namespace Go.Proofs.YtfddgdbebhmcnaaGreatDoor
set_option linter.unusedVariables false
set_option linter.unusedSimpArgs false
open Go.RowKit Go.Shelf Go.Lib
noncomputable def mapsUp (fr : Int → Option FrR) (n : Nat) : List (Nat × FrR) := (List.range n).filterMap fun (i : Nat) => (fr (i : Int)).map fun f => (i, f)
theorem mapsUp_none {fr : Int → Option FrR} {k : Nat} (h : fr (k : Int) = none) : mapsUp fr (k + 1) = mapsUp fr k := by
  unfold mapsUp; rw [List.range_succ, List.filterMap_append]; simp [h]
theorem mapsUp_some {fr : Int → Option FrR} {k : Nat} {f : FrR} (h : fr (k : Int) = some f) : mapsUp fr (k + 1) = mapsUp fr k ++ [(k, f)] := by
  unfold mapsUp; rw [List.range_succ, List.filterMap_append]; simp [h]
theorem mapsUp_len (fr : Int → Option FrR) : ∀ n, (mapsUp fr n).length ≤ n
  | 0 => by simp [mapsUp]
  | n + 1 => by
    have := mapsUp_len fr n
    cases h : fr (n : Int) with
    | none => rw [mapsUp_none h]; omega
    | some f => rw [mapsUp_some h]; simp; omega
def mpCells (x : Nat × FrR) (q : FAddr) : List Value := [.int .i64 x.1, .slice q.la x.2.loc.length q.lc, .slice q.sa x.2.st.length q.sc]
def MpAt (W : World) (B D : Nat) (v : Value) (L : List (Nat × FrR)) : Prop := ∃ qs : List FAddr, qs.length = L.length ∧ W.ownsRow B 62 3 v L.length (List.zipWith mpCells L qs).flatten ∧
  ∀ (k : Nat) (x : Nat × FrR) (q : FAddr), L[k]? = some x → qs[k]? = some q → FrAt W x.2 q ∧ FarF D D v x.2 q
theorem mp_nil (W : World) (B D : Nat) : MpAt W B D (.slice none 0 0) [] := ⟨[], rfl, World.ownsRow_nil _ _ _ _, fun k x q h => by simp at h⟩
theorem MpAt.below {W W' : World} {B D : Nat} {v : Value} {L : List (Nat × FrR)} (h : MpAt W B D v L) (hb : Below W.heap.size W W') : MpAt W' B D v L := by
  obtain ⟨qs, h1, h2, h3⟩ := h
  exact ⟨qs, h1, own_below h2 hb, fun k x q hx hq => ⟨(h3 k x q hx hq).1.below hb, (h3 k x q hx hq).2⟩⟩
theorem MpAt.form {W : World} {B D : Nat} {v : Value} {L : List (Nat × FrR)} (h : MpAt W B D v L) : ∃ a cap, v = .slice a L.length cap ∧ L.length ≤ cap := by
  obtain ⟨qs, h1, h2, h3⟩ := h
  exact slice_of_own h2
theorem zip_snoc {α β γ : Type} {f : α → β → γ} : ∀ {A : List α} {B : List β} {x : α} {y : β}, A.length = B.length → List.zipWith f (A ++ [x]) (B ++ [y]) = List.zipWith f A B ++ [f x y]
  | [], [], x, y, _ => rfl
  | a :: A, b :: B, x, y, h => by
    simp only [List.cons_append, List.zipWith_cons_cons]
    rw [zip_snoc (by simpa using h)]
  | [], _ :: _, _, _, h => by simp at h
  | _ :: _, [], _, _, h => by simp at h
theorem MpAt.snoc {W W' : World} {B D : Nat} {v v' : Value} {L : List (Nat × FrR)} {x : Nat × FrR} {q : FAddr} {qs : List FAddr} (h1 : qs.length = L.length) (h3 : ∀ (k : Nat) (x : Nat × FrR) (q : FAddr), L[k]? = some x → qs[k]? = some q → FrAt W x.2 q ∧ FarF D D v x.2 q)
    (ho : W'.ownsRow B 62 3 v' (L.length + 1) ((List.zipWith mpCells L qs).flatten ++ mpCells x q)) (hg : W.grownBy W' v.ownBlock) (hv : VUp W v v') (hf : FrAt W x.2 q) (hfar : FarF D D v x.2 q) : MpAt W' B D v' (L ++ [x]) := by
  have hkb : KbR D D v W W' := ⟨hg.os, hg.tape, hg.output, hg.size, fun k hk _ _ n3 => hg.block k hk (fun e => n3 e.symm)⟩
  refine ⟨qs ++ [q], by simp [h1], ?_, fun k y r hy hr => ?_⟩
  · rw [zip_snoc h1.symm, List.flatten_append, List.length_append]
    simpa using ho
  · rcases Nat.lt_or_ge k L.length with hl | hl
    · rw [List.getElem?_append_left hl] at hy
      rw [List.getElem?_append_left (by omega)] at hr
      obtain ⟨h5, h6⟩ := h3 k y r hy hr
      exact ⟨h6.keep h5 hkb, h6.up h5 hv⟩
    · have hk : k = L.length := by
        have := (List.getElem?_eq_some_iff.1 hy).1
        simp at this; omega
      subst hk
      rw [List.getElem?_append_right (Nat.le_refl _)] at hy
      rw [List.getElem?_append_right (by omega), h1] at hr
      simp only [Nat.sub_self, List.getElem?_cons_zero, Option.some.injEq] at hy hr
      subst hy
      subst hr
      exact ⟨hfar.keep hf hkb, hfar.up hf hv⟩
set_option maxRecDepth 100000 in
set_option maxHeartbeats 8000000 in
theorem cmethod_exact (l : List ClassR) (ps : List CAddr) (a : Option Addr) (cap : Nat) (c : Nm) (z : Int) (w : World) (hC : ClassesAt w a cap l ps) (hF : FormsAt w) (hB : ClsOk l) (hT : TyB l) (hc : c.length ≤ 1048576) :
    Calls Tryz.prog 16 #[.slice a l.length cap, .string ⟨⟨c⟩⟩, .int .i64 z] w fun e w' => Below w.heap.size w w' ∧ ((mtErr l c z ≠ 0 ∧ ∃ v, e = .returned (.tuple #[v, errV (mtErr l c z)])) ∨
      ∃ d m fr v B D, namErr l c z = 0 ∧ d ∈ l ∧ l.find? (hasAt c z) = some d ∧ d.meths[z.toNat]? = some m ∧ m.abst = false ∧ lookedF (wl l) c m = some fr ∧ (∀ z f, fr z = some f → KOk (wl l) f ∧ 0 ≤ z ∧ z < (m.code.length : Int)) ∧ e = .returned (.tuple #[v, .nilIface]) ∧ MpAt w' B D v (mapsUp fr m.code.length) ∧ w.heap.size ≤ B) := by
  have HN := Hd (named_calls l ps a cap c z w hC hF hB)
  have HT := Hd hT
  clear hC hF hB hT
  go_enter Tryz.func16, Tryz.ntmps16
  go_wp2_with fail
  refine HN.out.mono ?_
  rintro e w2 ⟨hb2, ⟨hne, rfl⟩ | ⟨b, d, m, q, hne, hdl, hfd, hm, hab, rfl, hw, hma⟩⟩
  · have HB2 := Hd hb2
    have HE := Hd (show mtErr l c z = namErr l c z by unfold mtErr; rw [if_pos hne])
    have HNE := Hd hne
    generalize namErr l c z = ne at *
    have HB3 := Hd (fun o => bl_alloc HB2.out o)
    clear hb2 hne
    unfold methV
    go_wp2_with fail
    go_ret2
    exact ⟨HB3.out _, Or.inl ⟨by rw [HE.out]; exact HNE.out, .slice none 0 0, by rw [HE.out]; rfl⟩⟩
  · have HB2 := Hd hb2
    have HW := Hd hw
    have HMA := Hd hma
    have hmm := List.mem_of_getElem? hm
    have HMO := Hd (good_mok hw.good hdl hmm hab)
    have htb := HT.out hw.good d hdl m hmm
    have hcl := HMO.out.flow.len
    have HE0 := Hd (show mtErr l c z = if (lookedF (wl l) c m).isNone = true then 7 else 0 by unfold mtErr; rw [if_neg (by simp [hne]), hfd]; simp only [Option.elim_some]; rw [hm]; rfl)
    obtain ⟨w3, hw3⟩ : ∃ w3, w3 = w2.alloc (.cells (mArr m q) 39) := ⟨_, rfl⟩
    have hb3 : Below w2.heap.size w2 w3 := by rw [hw3]; exact bl_alloc (Below.refl _ _) _
    have HM3 := Hd (show Blk w3 w2.heap.size 39 (mArr m q) by rw [hw3]; exact blk_new _ _ _ _ rfl)
    have HB3 := Hd (bl_trans HB2.out hb3)
    have HND := Hd (show namErr l c z = 0 ∧ d ∈ l ∧ l.find? (hasAt c z) = some d ∧ d.meths[z.toNat]? = some m ∧ m.abst = false from ⟨hne, hdl, hfd, hm, hab⟩)
    have HLD := Hd (looked_calls l (wcp l ps) b c m q w3 (hw.below hb3) (hma.below hb3) HMO.out hc htb.1 htb.2 (flow_pos HMO.out.flow))
    have HW3 := Hd (hw.below hb3)
    rw [methV_arr] at *
    unfold mArr at hw3 HLD ⊢
    clear hb2 hw hma hmm hdl hfd hm hab hne hb3 htb
    go_upto_region 2 with fail
    rw [← hw3]
    clear hw3
    obtain ⟨g0, g1, g2, g3, g4, g5, g6, g7⟩ := mblk_cells HM3.out
    have g8 := HM3.out.lt
    go_wp2_with fail
    refine HLD.out.mono ?_
    rintro e w5 ⟨hb5, ⟨hno, rfl⟩ | ⟨fr, MB, hfr, rfl, hfs, hko⟩⟩
    · have HB5 := Hd (bl_trans HB3.out hb5)
      have HE := Hd (show mtErr l c z = 7 by rw [HE0.out, hno]; rfl)
      clear hb5 hno g0 g1 g2 g3 g4 g5 g6 g7 g8
      go_wp2_with fail
      go_ret2
      exact ⟨HB5.out, Or.inl ⟨by rw [HE.out]; omega, .slice none 0 0, by rw [HE.out]; rfl⟩⟩
    · have HB5 := Hd (bl_trans HB3.out hb5)
      have HFR := Hd hfr
      have hmb : w2.heap.size < w5.heap.size := Nat.lt_of_lt_of_le HM3.out.lt hb5.size
      have HM5 := Hd (HM3.out.below hb5)
      have HW5 := Hd (HW3.out.below hb5)
      have HFS := Hd hfs
      have HKO := Hd hko
      have hs5 := hb5.size
      clear hb5 hfr hfs hko g0 g1 g2 g3 g4 g5 g6 g7 g8
      have g6 := (mblk_cells HM5.out).2.2.2.2.2.2.1
      have g8 := HM5.out.lt
      go_wp2_with fail
      clear g6 g8
      go_loopw [13, 43] (fun v i wr => ∃ k : Nat, k ≤ m.code.length ∧ i = .int .i64 k ∧ Below w5.heap.size w5 wr ∧ MpAt wr w5.heap.size w2.heap.size v (mapsUp fr k)) (fun _ i _ => m.code.length - (RowKit.intOf i).toNat)
      case atStart => exact ⟨0, by omega, rfl, Below.refl _ _, mp_nil _ _ _⟩
      case round =>
        obtain ⟨k, hk, rfl, hb, ho⟩ := hrel
        obtain ⟨av, cv, rfl, _⟩ := ho.form
        have hnk := mapsUp_len fr k
        have HBr := Hd hb
        have HO := Hd ho
        have HFr := Hd (HFS.out.below hb)
        have hsr := hb.size
        clear ho hb
        by_cases hlk : k < m.code.length
        · obtain ⟨nI, F, hI, hFF⟩ := HFr.out
          have hFk := hFF (k : Int)
          cases hfk : fr (k : Int) with
          | none =>
            rw [hfk] at hFk
            have hlkp := IMap.look_none (P := Tryz.prog) (w := wr) (k := 3) (t := 102) (e := 60) Tryz.underlying3 Tryz.underlying102 hI (wf_nat k (by omega)) hFk (zero_frame _) true
            simp only [if_true] at hlkp
            have HB9 := Hd (fun o => bl_alloc HBr.out o)
            have HO9 := Hd (fun o => (show MpAt (wr.alloc o) w5.heap.size w2.heap.size (.slice av (mapsUp fr k).length cv) (mapsUp fr (k + 1)) by rw [mapsUp_none hfk]; exact HO.out.below (bl_alloc (Below.refl _ _) _)))
            clear hI hFF hFk hfk
            go_wp2_with fail
            go_roundw
            case rel => exact ⟨k + 1, by omega, by go_num, HB9.out _, HO9.out _⟩
            case measure => simp [RowKit.intOf]; omega
          | some f =>
            rw [hfk] at hFk
            obtain ⟨qf, hqv, hqf⟩ := hFk
            have hkf := (HKO.out _ _ hfk).1
            have hlkp := IMap.look_some (P := Tryz.prog) (w := wr) (k := 3) (t := 102) (e := 60) Tryz.underlying3 Tryz.underlying102 hI (wf_nat k (by omega)) hqv true
            simp only [if_true] at hlkp
            unfold frV at hlkp
            obtain ⟨w6, hw6⟩ : ∃ w6, w6 = wr.alloc (.cells #[.slice qf.la f.loc.length qf.lc, .slice qf.sa f.st.length qf.sc] 60) := ⟨_, rfl⟩
            have hb6 : Below wr.heap.size wr w6 := by rw [hw6]; exact bl_alloc (Below.refl _ _) _
            have HT6 := Hd (show Blk w6 wr.heap.size 60 #[.slice qf.la f.loc.length qf.lc, .slice qf.sa f.st.length qf.sc] by rw [hw6]; exact blk_new _ _ _ _ rfl)
            have HB6 := Hd (bl_trans HBr.out hb6)
            have HO6 := Hd (HO.out.below hb6)
            have HSH := Hd (show sameSh f f from ⟨rfl, rfl⟩)
            have HJS := Hd (joinF_self (l := l) hkf)
            have HUP := Hd (mapsUp_some hfk)
            have HBO := Hd ((both_callsN l (wcp l ps) b f f qf qf w6 (HW5.out.below HB6.out) (hqf.below hb6) (hqf.below hb6) hkf.chk hkf.chk).mono (fun e w' h => bothres h))
            unfold frV at HBO
            clear hI hFF hfk hqv hqf hkf hb6
            go_upto_region 12 with fail
            rw [← hw6]
            clear hw6 hlkp
            have t0 := HT6.out.cell 0
            have t1 := HT6.out.cell 1
            have t2 := HT6.out.lt
            go_wp2_with fail
            refine HBO.out.mono ?_
            rintro e w7 ⟨ga, gb, n1, gc1, n2, gc2, is, rfl, hb7, ⟨_, hno⟩ | ⟨_, _, rfl, rfl, hga, hgn⟩⟩
            · exact absurd HSH.out hno
            rw [HJS.out] at *
            have HB7 := Hd (bl_trans HB6.out hb7)
            have HO7 := Hd (HO6.out.below hb7)
            have hs6 := HB6.out.size
            have HGA := Hd (fun o => (hga.below (bl_alloc (Below.refl _ _) o) : FrAt (w7.alloc o) f ⟨ga, gc1, gb, gc2⟩))
            have HB8 := Hd (fun o => bl_alloc HB7.out o)
            have HO8 := Hd (fun o => HO7.out.below (bl_alloc (Below.refl _ _) o))
            have HGN := Hd hgn
            obtain ⟨qs, hq1, hq2, hq3⟩ := HO8.out (.cells #[.slice ga f.loc.length gc1, .slice gb f.st.length gc2] 60)
            have HQ1 := Hd hq1
            have HQ2 := Hd hq2
            have HQ3 := Hd hq3
            clear hq1 hq2 hq3 hga hgn
            clear hb7 t0 t1 t2
            unfold slc
            go_wp2_with (at_builtin; refine wpList_append_one_lies rowMap rfl _ _ rfl w5.heap.size _ (mapsUp fr k).length (List.zipWith mpCells (mapsUp fr k) qs).flatten rfl ?c0 (mpCells (k, f) ⟨ga, gc1, gb, gc2⟩) rfl ?c1 _ rfl ?cg ?c2 ?c3 ?c4 ?_)
            case c0 => exact HQ2.out
            case c1 =>
              intro u hu
              simp only [mpCells, List.mem_cons, List.not_mem_nil, or_false] at hu
              rcases hu with rfl | rfl | rfl <;> rfl
            case cg => first | rfl | simp
            case c2 => omega
            case c3 => omega
            case c4 => exact (HB8.out _).size
            intro k9 c9 w9 ho9 hg9 hlie
            have hvl : ∀ y, (Value.slice av (mapsUp fr k).length cv).ownBlock = some y → y < w6.heap.size := fun y hy => by
              obtain ⟨_, _, h, _⟩ := HO6.out
              exact (h.lt y hy).2
            have hd6 : w2.heap.size < w6.heap.size := by have := HB6.out.size; omega
            have HMP := Hd (show MpAt w9 w5.heap.size w2.heap.size (.slice (some ⟨k9, 0, none⟩) ((mapsUp fr k).length + 1) c9) (mapsUp fr (k + 1)) by
              rw [HUP.out]
              refine MpAt.snoc (x := (k, f)) (q := ⟨ga, gc1, gb, gc2⟩) HQ1.out (fun i x q hx hq => ⟨(HQ3.out i x q hx hq).1.below (bl_alloc (Below.refl _ _) _), (HQ3.out i x q hx hq).2⟩) ho9 hg9 ?_ ((HGA.out _).below (bl_alloc (Below.refl _ _) _)) (FarF.new (n := w6.heap.size) hd6 hd6 hvl HGN.out)
              rcases hlie with h | h
              · exact Or.inl h.symm
              · exact Or.inr (fun y hy => by cases hy; first | omega | (simp; omega) | (simp at h ⊢; omega)))
            have HB9 := Hd ((HB8.out (.cells #[.slice ga f.loc.length gc1, .slice gb f.st.length gc2] 60)).trans (grown_below (HB8.out _).size HQ2.out hg9))
            clear ho9 hg9 hlie
            go_wp2_with fail
            go_roundw
            case rel => exact ⟨k + 1, by omega, by go_num, HB9.out, HMP.out⟩
            case measure => simp [RowKit.intOf]; omega
        · obtain rfl : k = m.code.length := by omega
          have HB9 := Hd (bl_trans HB5.out HBr.out)
          go_wp2_with fail
          go_ret2
          exact ⟨HB9.out, Or.inr ⟨d, m, fr, _, w5.heap.size, w2.heap.size, HND.out.1, HND.out.2.1, HND.out.2.2.1, HND.out.2.2.2.1, HND.out.2.2.2.2, HFR.out, HKO.out, rfl, HO.out, HB5.out.size⟩⟩
end Go.Proofs.YtfddgdbebhmcnaaGreatDoor
namespace Go.Proofs.YtfddgdbebhmcnaaGreatDoor
set_option linter.unusedVariables false
set_option linter.unusedSimpArgs false
open Go.RowKit Go.Shelf Go.Lib
noncomputable def fcErr (l : List ClassR) (f : FrR) : Int := if readErr l ≠ 0 then readErr l else chkErr (wl l) f
set_option maxRecDepth 100000 in
set_option maxHeartbeats 1000000 in
theorem frcheck_calls (l : List ClassR) (ps : List CAddr) (a : Option Addr) (cap : Nat) (f : FrR) (p : FAddr) (w : World) (hC : ClassesAt w a cap l ps) (hF : FormsAt w) (hB : ClsOk l) (hf : FrAt w f p) (hfb : FrB f) :
    Calls Tryz.prog 52 #[.slice a l.length cap, frV f p] w fun e w' => e = .returned (errOf (fcErr l f)) ∧ Below w.heap.size w w' := by
  obtain ⟨w1, hw1⟩ : ∃ w1, w1 = w.alloc (.cells #[.slice p.la f.loc.length p.lc, .slice p.sa f.st.length p.sc] 60) := ⟨_, rfl⟩
  have hb1 : Below w.heap.size w w1 := by rw [hw1]; exact bl_alloc (Below.refl _ _) _
  have HT := Hd (show Blk w1 w.heap.size 60 #[.slice p.la f.loc.length p.lc, .slice p.sa f.st.length p.sc] by rw [hw1]; exact blk_new _ _ _ _ rfl)
  have HB1 := Hd hb1
  have HR := Hd (read_w l ps a cap w1 (hC.below hb1) (hF.below hb1) hB)
  have HFC := Hd (fun W b (hw : Below w1.heap.size w1 W) (hW : WOk W b l (wcp l ps)) => fcheck_calls l (wcp l ps) b f p W hW ((hf.below hb1).below hw) hfb)
  unfold frV at HFC ⊢
  have HE := Hd (show fcErr l f = if readErr l ≠ 0 then readErr l else chkErr (wl l) f from rfl)
  generalize hEE : errOf (fcErr l f) = EE
  have HEE := Hd hEE
  clear hC hF hB hf hfb hb1 hEE
  go_enter Tryz.func52, Tryz.ntmps52
  go_upto_region 1 with fail
  rw [← hw1]
  clear hw1
  go_wp2_with fail
  refine HR.out.mono ?_
  rintro e w2 ⟨hb2, ⟨hne, rfl⟩ | ⟨hz, b, rfl, hw⟩⟩
  · have HB2 := Hd (bl_trans HB1.out hb2)
    have HQ := Hd (show EE = errV (readErr l) by rw [← HEE.out, HE.out, if_pos hne]; exact errOf_ne hne)
    generalize readErr l = ze at *
    clear hb2 hne
    go_wp2_with fail
    go_ret
    exact ⟨by rw [HQ.out]; rfl, HB2.out⟩
  · have HB2 := Hd (bl_trans HB1.out hb2)
    have HF2 := Hd (HFC.out w2 b hb2 hw)
    have HT2 := Hd (HT.out.below hb2)
    have HQ := Hd (show EE = errOf (chkErr (wl l) f) by rw [← HEE.out, HE.out, if_neg (by simp [hz])])
    have t0 := HT2.out.cell 0
    have t1 := HT2.out.cell 1
    have t2 := HT2.out.lt
    clear hb2 hw hz
    go_wp2_with fail
    refine HF2.out.mono ?_
    rintro e w3 ⟨rfl, hb3⟩
    have HB3 := Hd (bl_trans HB2.out hb3)
    clear hb3
    go_wp2_with fail
    go_ret
    exact ⟨by rw [HQ.out]; rfl, HB3.out⟩
def wkArr (b : Nat) (m : MethR) (p : MAddr) (MB : Nat) : Array Value :=
  #[.map (some b), .string ⟨⟨m.nm⟩⟩, .string ⟨⟨m.ty⟩⟩, .bool m.stat, .bool m.abst, .bool m.priv, .int .i64 m.loc, .slice p.ca m.code.length p.cc, .slice p.ha m.hs.length p.hc, .map (some MB)]
structure WkAt (W : World) (K MB b : Nat) (m : MethR) (p : MAddr) (M : Int → Option FrR) : Prop where
  blk : Blk W K 119 (wkArr b m p MB)
  fr : FrsAt W MB M
theorem WkAt.below {W W' : World} {K MB b : Nat} {m : MethR} {p : MAddr} {M : Int → Option FrR} (h : WkAt W K MB b m p M) (hb : Below W.heap.size W W') : WkAt W' K MB b m p M := ⟨h.blk.below hb, h.fr.below hb⟩
theorem meetsB_none {L : List ClassR} {M : Int → Option FrR} {z : Int} {f : FrR} (h : M z = none) : meetsB L M z f = false := by unfold meetsB; rw [h]; rfl
theorem meetsB_bad {L : List ClassR} {M : Int → Option FrR} {z : Int} {f m : FrR} (h : M z = some m) (hs : ¬ sameSh f m) : meetsB L M z f = false := by unfold meetsB; rw [h]; simp [hs]
theorem meetsB_some {L : List ClassR} {M : Int → Option FrR} {z : Int} {f m : FrR} (h : M z = some m) (hs : sameSh f m) : meetsB L M z f = sameB (joinF L f m) m := by
  unfold meetsB; rw [h]
  simp only [Option.elim_some]
  rw [Bool.eq_iff_iff, sameB_true]
  simp [hs]
set_option maxRecDepth 100000 in
set_option maxHeartbeats 16000000 in
theorem meets_calls (l : List ClassR) (LC : List CP) (K MB b : Nat) (m : MethR) (p : MAddr) (M : Int → Option FrR) (z : Int) (f : FrR) (q : FAddr) (w : World) (hW : WOk w b l LC) (hL : WkAt w K MB b m p M) (hz : 0 ≤ z ∧ z ≤ 1000) (hf : FrAt w f q) (hkf : KOk (wl l) f) (hM : ∀ z g, M z = some g → KOk (wl l) g) :
    Calls Tryz.prog 96 #[.pointer (some ⟨K, 0, none⟩), .int .i64 z, frV f q] w fun e w' => e = .returned (.bool (meetsB (wl l) M z f)) ∧ Below w.heap.size w w' := by
  have hwf : (Lit.int .i64 z).wf = true := by
    obtain ⟨n, rfl⟩ : ∃ n : Nat, z = n := ⟨z.toNat, by omega⟩
    exact wf_nat n (by omega)
  obtain ⟨w1, hw1⟩ : ∃ w1, w1 = w.alloc (.cells #[.slice q.la f.loc.length q.lc, .slice q.sa f.st.length q.sc] 60) := ⟨_, rfl⟩
  have hb1 : Below w.heap.size w w1 := by rw [hw1]; exact bl_alloc (Below.refl _ _) _
  have hs1 : w1.heap.size = w.heap.size + 1 := by rw [hw1]; simp
  have HB1 := Hd hb1
  have HT1 := Hd (show Blk w1 w.heap.size 60 #[.slice q.la f.loc.length q.lc, .slice q.sa f.st.length q.sc] by rw [hw1]; exact blk_new _ _ _ _ rfl)
  have HL1 := Hd (hL.below hb1)
  obtain ⟨n1, F1, hI1, hF1⟩ := HL1.out.fr
  have hF1 := hF1 z
  have c1 := HL1.out.blk.cell 9
  have c2 := HL1.out.blk.lt
  unfold wkArr at c1
  cases hmz : M z with
  | none =>
    rw [hmz] at hF1
    have hlk := IMap.look_none (P := Tryz.prog) (w := w1) (k := 3) (t := 102) (e := 60) Tryz.underlying3 Tryz.underlying102 hI1 hwf hF1 (zero_frame _) true
    simp only [if_true] at hlk
    rw [meetsB_none hmz]
    have HB2 := Hd (fun o => bl_alloc HB1.out o)
    unfold frV
    clear hW hL hf hkf hM hb1 hI1 hF1 hmz hwf
    go_enter Tryz.func96, Tryz.ntmps96
    go_upto_region 1 with fail
    rw [← hw1]
    clear hw1
    go_wp2_with fail
    go_ret
    exact ⟨rfl, HB2.out _⟩
  | some was =>
    rw [hmz] at hF1
    obtain ⟨qw, hq1, hq2⟩ := hF1
    have hkw := hM _ _ hmz
    have hlk := IMap.look_some (P := Tryz.prog) (w := w1) (k := 3) (t := 102) (e := 60) Tryz.underlying3 Tryz.underlying102 hI1 hwf hq1 true
    simp only [if_true] at hlk
    obtain ⟨u2, hw2⟩ : ∃ w2, w2 = w1.alloc (.cells #[.slice qw.la was.loc.length qw.lc, .slice qw.sa was.st.length qw.sc] 60) := ⟨_, rfl⟩
    have hb12 : Below w1.heap.size w1 u2 := by rw [hw2]; exact bl_alloc (Below.refl _ _) _
    have hs2' : u2.heap.size = w.heap.size + 1 + 1 := by rw [hw2]; simp; omega
    have HB2' := Hd (bl_trans hb1 hb12)
    have HT2 := Hd (HT1.out.below hb12)
    have HU2 := Hd (show Blk u2 (w.heap.size + 1) 60 #[.slice qw.la was.loc.length qw.lc, .slice qw.sa was.st.length qw.sc] by rw [hw2]; exact blk_new _ _ _ _ hs1.symm)
    have HL2' := Hd (HL1.out.below hb12)
    have HFW := Hd (hq2.below hb12)
    have HFF := Hd (hf.below HB2'.out)
    have HN := Hd hmz
    have HG8 := Hd (show (joinF (wl l) f was).loc.length ≤ 100000 ∧ (joinF (wl l) f was).st.length ≤ 100000 from by
      have h1 : (joinF (wl l) f was).loc.length ≤ f.loc.length := by unfold joinF; simp; omega
      have h2 : (joinF (wl l) f was).st.length ≤ f.st.length := by unfold joinF; simp; omega
      have := hkf.loc; have := hkf.st
      omega)
    have HBO := Hd (fun W (hw : Below u2.heap.size u2 W) => (both_callsN l LC b f was q qw W ((hW.below HB2'.out).below hw) (HFF.out.below hw) (HFW.out.below hw) hkf.chk hkw.chk).mono (fun e w' h => bothres h))
    have HSC := Hd (fun W (hw : Below u2.heap.size u2 W) => (show W.cell? ⟨K, 0, none⟩ = some (.map (some b)) ∧ W.cell? ⟨w.heap.size + 1, 0, none⟩ = some (.slice qw.la was.loc.length qw.lc) ∧ W.cell? ⟨w.heap.size + 1, 1, none⟩ = some (.slice qw.sa was.st.length qw.sc) ∧ W.cell? ⟨w.heap.size, 0, none⟩ = some (.slice q.la f.loc.length q.lc) ∧ W.cell? ⟨w.heap.size, 1, none⟩ = some (.slice q.sa f.st.length q.sc) from
      ⟨(HL2'.out.below hw).blk.cell 0, (HU2.out.below hw).cell 0, (HU2.out.below hw).cell 1, (HT2.out.below hw).cell 0, (HT2.out.below hw).cell 1⟩))
    have HAL := Hd (show Below u2.heap.size u2 (u2.alloc (.cells #[.slice none 0 0, .slice none 0 0] 60)).drew from (bl_alloc (Below.refl _ _) _).drew)
    have HZ1 := Hd (show Blk (u2.alloc (.cells #[.slice none 0 0, .slice none 0 0] 60)).drew (w.heap.size + 1 + 1) 60 #[.slice none 0 0, .slice none 0 0] from by have h := blk_new u2 u2.heap.size 60 #[.slice none 0 0, .slice none 0 0] rfl; rw [hs2'] at h; exact h)
    have c3 := HL2'.out.blk.lt
    obtain ⟨R, hR⟩ : ∃ R, R = meetsB (wl l) M z f := ⟨_, rfl⟩
    rw [← hR]
    have HR := Hd hR
    unfold frV at hlk HBO
    unfold frV
    clear hL hz hf hkf hkw hM hmz hb1 hb12 hI1 hq1 hq2 hW hwf hR
    go_enter Tryz.func96, Tryz.ntmps96
    go_upto_region 1 with fail
    rw [← hw1]
    clear hw1
    go_upto_region 4 with fail
    rw [← hw2]
    clear hw2 c1 c2 hlk
    go_region_held3 (fun W' => W'.cell? ⟨K, 0, none⟩ = some (.map (some b)) ∧ W'.cell? ⟨w.heap.size + 1, 0, none⟩ = some (.slice qw.la was.loc.length qw.lc) ∧ W'.cell? ⟨w.heap.size + 1, 1, none⟩ = some (.slice qw.sa was.st.length qw.sc) ∧ W'.cell? ⟨w.heap.size, 0, none⟩ = some (.slice q.la f.loc.length q.lc) ∧ W'.cell? ⟨w.heap.size, 1, none⟩ = some (.slice q.sa f.st.length q.sc))
      (first | exact HSC.out _ (Below.refl _ _) | exact HSC.out _ (Below.refl _ _).drew | exact HSC.out _ HAL.out | exact HSC.out _ (bl_alloc (Below.refl _ _) _) | exact HSC.out _ (bl_alloc (Below.refl _ _).drew _) | exact HSC.out _ hb5 | exact HSC.out _ hb5.drew | exact HSC.out _ hbA | exact HSC.out _ (bl_alloc hbA _))
      ((first
      | (go_at_call 40
         with_reducible refine (HBO.out u2.drew (Below.refl _ _).drew).mono ?_
         rintro e wb ⟨ga, gb, n1, gc1, n2, gc2, is, rfl, hbb, hor⟩
         have hbA := bl_trans (Below.refl u2.heap.size u2).drew hbb
         obtain ⟨w5, hst5, hb5', hk5⟩ := fstore_new wb ga n1 gc1 gb n2 gc2
         have hb5 := bl_trans hbA hb5'
         have hfa : ∀ g q, FrAt wb g q → FNew u2.drew.heap.size q → FrAt w5 g q := fun g q h _ => h.below hb5'
         have hsb5 : wb.heap.size ≤ w5.heap.size := hb5'.size
         have ht5 : u2.heap.size ≤ wb.heap.size := hbA.size
         obtain ⟨T9, hT9⟩ : ∃ T, T = wb.heap.size := ⟨_, rfl⟩)
      | (go_at_call 40
         with_reducible refine (HBO.out (u2.alloc (.cells #[.slice none 0 0, .slice none 0 0] 60)).drew HAL.out).mono ?_
         rintro e wb ⟨ga, gb, n1, gc1, n2, gc2, is, rfl, hbb, hor⟩
         have hbA := bl_trans HAL.out hbb
         obtain ⟨w5, hst5, hg5, hk5⟩ := fstore_old wb (w.heap.size + 1 + 1) ga n1 gc1 gb n2 gc2 (HZ1.out.below hbb)
         have hb5 := gb_to_below hbA hg5 (by omega)
         have hfa : ∀ g q, FrAt wb g q → FNew (u2.alloc (.cells #[.slice none 0 0, .slice none 0 0] 60)).drew.heap.size q → FrAt w5 g q := fun g q h hn => by
           have e9 : (u2.alloc (.cells #[.slice none 0 0, .slice none 0 0] 60)).drew.heap.size = u2.heap.size + 1 := by show (u2.alloc _).heap.size = _; simp
           rw [e9] at hn
           exact ⟨gb_srow hg5 h.1 (fun ad e => by have := hn.1 ad e; omega), gb_srow hg5 h.2 (fun ad e => by have := hn.2 ad e; omega)⟩
         have hsb5 : wb.heap.size ≤ w5.heap.size := hg5.size
         have ht5 : u2.heap.size ≤ w.heap.size + 1 + 1 := by omega
         obtain ⟨T9, hT9⟩ : ∃ T, T = w.heap.size + 1 + 1 := ⟨_, rfl⟩)))
    · rw [← hT9]
      have ht9 : u2.heap.size ≤ T9 := by omega
      have HK5 := Hd (show Blk w5 T9 60 (slc ga n1 gc1 gb n2 gc2) by rw [hT9]; exact hk5)
      have HU5 := Hd (HU2.out.below hb5)
      have HFA := Hd hfa
      have HFW5 := Hd (HFW.out.below hb5)
      have HBW := Hd (bl_trans HB2'.out hb5)
      clear hT9 hst5 hb5 hk5 hbA hbb hfa c3
      rcases hor with ⟨rfl, hns⟩ | ⟨rfl, hss, rfl, rfl, hga, hgn⟩
      · have HE := Hd (show R = false by rw [HR.out]; exact meetsB_bad HN.out hns)
        clear hns
        go_wp2_with fail
        go_ret
        exact ⟨by rw [HE.out]; rfl, HBW.out⟩
      · have HFG5 := Hd (HFA.out _ _ hga hgn)
        have HE := Hd (show R = sameB (joinF (wl l) f was) was by rw [HR.out]; exact meetsB_some HN.out hss)
        clear hga hgn HFA HBO hss
        generalize hGG : joinF (wl l) f was = G at *
        clear hGG
        have hG8 : G.loc.length ≤ 100000 ∧ G.st.length ≤ 100000 := HG8.out
        have HSA := Hd (same_any G was ⟨ga, gc1, gb, gc2⟩ qw w5 HFG5.out HFW5.out hG8.1 hG8.2)
        unfold frV at HSA
        generalize sameB G was = sb at *
        have x0 := HK5.out.cell 0
        have x1 := HK5.out.cell 1
        have x2 := HK5.out.lt
        have x3 := HU5.out.cell 0
        have x4 := HU5.out.cell 1
        have x5 := HU5.out.lt
        unfold slc at x0 x1
        go_wp2_with fail
        refine HSA.out.mono ?_
        rintro e w6 ⟨rfl, hb6⟩
        have HB6 := Hd (bl_trans HBW.out hb6)
        clear hb6
        go_wp2_with fail
        go_ret
        exact ⟨by rw [HE.out]; rfl, HB6.out⟩
    · rw [← hT9]
      have ht9 : u2.heap.size ≤ T9 := by omega
      have HK5 := Hd (show Blk w5 T9 60 (slc ga n1 gc1 gb n2 gc2) by rw [hT9]; exact hk5)
      have HU5 := Hd (HU2.out.below hb5)
      have HFA := Hd hfa
      have HFW5 := Hd (HFW.out.below hb5)
      have HBW := Hd (bl_trans HB2'.out hb5)
      clear hT9 hst5 hb5 hk5 hbA hbb hfa c3
      rcases hor with ⟨rfl, hns⟩ | ⟨rfl, hss, rfl, rfl, hga, hgn⟩
      · have HE := Hd (show R = false by rw [HR.out]; exact meetsB_bad HN.out hns)
        clear hns
        go_wp2_with fail
        go_ret
        exact ⟨by rw [HE.out]; rfl, HBW.out⟩
      · have HFG5 := Hd (HFA.out _ _ hga hgn)
        have HE := Hd (show R = sameB (joinF (wl l) f was) was by rw [HR.out]; exact meetsB_some HN.out hss)
        clear hga hgn HFA HBO hss
        generalize hGG : joinF (wl l) f was = G at *
        clear hGG
        have hG8 : G.loc.length ≤ 100000 ∧ G.st.length ≤ 100000 := HG8.out
        have HSA := Hd (same_any G was ⟨ga, gc1, gb, gc2⟩ qw w5 HFG5.out HFW5.out hG8.1 hG8.2)
        unfold frV at HSA
        generalize sameB G was = sb at *
        have x0 := HK5.out.cell 0
        have x1 := HK5.out.cell 1
        have x2 := HK5.out.lt
        have x3 := HU5.out.cell 0
        have x4 := HU5.out.cell 1
        have x5 := HU5.out.lt
        unfold slc at x0 x1
        go_wp2_with fail
        refine HSA.out.mono ?_
        rintro e w6 ⟨rfl, hb6⟩
        have HB6 := Hd (bl_trans HBW.out hb6)
        clear hb6
        go_wp2_with fail
        go_ret
        exact ⟨by rw [HE.out]; rfl, HB6.out⟩
end Go.Proofs.YtfddgdbebhmcnaaGreatDoor
