/-
  The walk of maps.Accept at maps that are right and in order.
  MapsHigher: the plain law.
-/
import Derived.Test.YtfddgdbebhmcnaaGreatDoorMc
import Derived.BigQuiet
import Derived.Deep.QuietTactic
import Derived.Test.YtfddgdbebhmcnaaGreatDoorPn
namespace Go.Proofs.YtfddgdbebhmcnaaGreatDoor
set_option linter.unusedVariables false
set_option linter.unusedSimpArgs false
open Go.RowKit Go.Shelf Go.Lib
def mapM (L : List (Nat × FrR)) (y : Int) : Option FrR := (L.find? fun x => (x.1 : Int) == y).map (·.2)
def Incr (L : List (Nat × FrR)) : Prop := ∀ (i j : Nat) (x y : Nat × FrR), i < j → L[i]? = some x → L[j]? = some y → x.1 < y.1
theorem mapM_snoc {L : List (Nat × FrR)} {j : Nat} {x : Nat × FrR} (hi : Incr L) (hx : L[j]? = some x) (y : Int) : mapM (L.take (j + 1)) y = updF (mapM (L.take j)) x.1 x.2 y := by
  unfold mapM updF
  rw [List.take_add_one, hx, List.find?_append]
  simp only [Option.toList_some]
  by_cases e : y = (x.1 : Int)
  · subst e
    rw [if_pos rfl]
    have : (L.take j).find? (fun q => (q.1 : Int) == (x.1 : Int)) = none := by
      rw [List.find?_eq_none]
      intro q hq
      obtain ⟨i, hi2⟩ := List.mem_iff_getElem?.1 hq
      rw [List.getElem?_take] at hi2
      split at hi2
      · rename_i hlt
        have := hi i j q x hlt hi2 hx
        simp; omega
      · cases hi2
    rw [this]; simp
  · rw [if_neg e]
    have : [x].find? (fun q => (q.1 : Int) == y) = none := by
      rw [List.find?_eq_none]
      intro q hq
      rw [List.mem_singleton.1 hq]
      simp; omega
    rw [this]; simp
structure MapsIn (w : World) (a : Option Addr) (cap : Nat) (L : List (Nat × FrR)) (qs : List FAddr) : Prop where
  len : qs.length = L.length
  rows : RowsAt w 3 a cap (List.zipWith mpCells L qs)
  frs : ∀ (k : Nat) (x : Nat × FrR) (q : FAddr), L[k]? = some x → qs[k]? = some q → FrAt w x.2 q
theorem MapsIn.below {w w' : World} {a : Option Addr} {cap : Nat} {L : List (Nat × FrR)} {qs : List FAddr} (h : MapsIn w a cap L qs) (hb : Below w.heap.size w w') : MapsIn w' a cap L qs := ⟨h.len, h.rows.below hb, fun k x q h1 h2 => (h.frs k x q h1 h2).below hb⟩
theorem MapsIn.cells {w : World} {a : Option Addr} {cap : Nat} {L : List (Nat × FrR)} {qs : List FAddr} (h : MapsIn w a cap L qs) {k : Nat} {x : Nat × FrR} (hx : L[k]? = some x) : ∃ b off q, a = some ⟨b, off, none⟩ ∧ b < w.heap.size ∧ qs[k]? = some q ∧ FrAt w x.2 q ∧
    w.cell? ⟨b, off + k * 3, none⟩ = some (.int .i64 x.1) ∧ w.cell? ⟨b, off + k * 3 + 1, none⟩ = some (.slice q.la x.2.loc.length q.lc) ∧ w.cell? ⟨b, off + k * 3 + 2, none⟩ = some (.slice q.sa x.2.st.length q.sc) := by
  obtain ⟨hl, hr, hm⟩ := h
  obtain ⟨hk, _⟩ := List.getElem?_eq_some_iff.1 hx
  obtain ⟨q, hq⟩ : ∃ q, qs[k]? = some q := ⟨_, List.getElem?_eq_getElem (by omega)⟩
  have hz : (List.zipWith mpCells L qs)[k]? = some (mpCells x q) := by rw [List.getElem?_zipWith, hx, hq]
  obtain ⟨_, h2 | ⟨b, off, rfl, hlt, hc⟩⟩ := hr
  · rw [h2] at hz; simp at hz
  · have hh := hc k _ hz
    exact ⟨b, off, q, rfl, hlt, hq, hm k x q hx hq, hh 0 _ rfl, hh 1 _ rfl, hh 2 _ rfl⟩
theorem frsAt_of {w w' : World} {MB n : Nat} {F : Int → Option Value} {M : Int → Option FrR} (h : IMap w' MB n F) (hF : ∀ y, FrC w (M y) (F y)) (hb : Below w.heap.size w w') : FrsAt w' MB M := by
  refine ⟨n, F, h, fun y => ?_⟩
  have := hF y
  cases hm : M y with
  | none => rw [hm] at this; exact this
  | some f =>
    rw [hm] at this
    obtain ⟨q, h1, h2⟩ := this
    exact ⟨q, h1, h2.below hb⟩
set_option maxRecDepth 100000 in
set_option maxHeartbeats 16000000 in
theorem accept_calls (l : List ClassR) (ps : List CAddr) (a : Option Addr) (cap : Nat) (c : Nm) (z : Int) (L : List (Nat × FrR)) (qs : List FAddr) (a3 : Option Addr) (c3 : Nat) (d : ClassR) (m : MethR) (w : World) (hC : ClassesAt w a cap l ps) (hF : FormsAt w) (hB : ClsOk l) (hc : c.length ≤ 1048576)
    (hG : Good l) (hn : namErr l c z = 0) (hd : d ∈ l) (hfd : l.find? (hasAt c z) = some d) (hm : d.meths[z.toNat]? = some m) (hI : MapsIn w a3 c3 L qs) (hinc : Incr L) (hin : ∀ x ∈ L, x.1 < m.code.length) (hk : ∀ x ∈ L, KOk (wl l) x.2) (hll : L.length ≤ 40) :
    Calls Tryz.prog 23 #[.slice a l.length cap, .string ⟨⟨c⟩⟩, .int .i64 z, .slice a3 L.length c3] w fun e w' => e = .returned (if walkB (wl l) c m (mapM L) = true then .nilIface else errV 7) ∧ Below w.heap.size w w' := by
  have HN := Hd (named_calls l ps a cap c z w hC hF hB)
  have HC := Hd hC
  have HFm := Hd hF
  have HBd := Hd hB
  have HI := Hd hI
  have HINC := Hd hinc
  have HIN := Hd hin
  have HK := Hd hk
  have HG := Hd hG
  have HTB := Hd (tyB_of hB hG)
  have HNE := Hd hn
  have HFD := Hd hfd
  have HMm := Hd hm
  have HDL := Hd hd
  clear hC hF hB hI hinc hin hk hG hn hfd hm hd
  obtain ⟨E, hE⟩ : ∃ E, E = (if walkB (wl l) c m (mapM L) = true then Value.nilIface else errV 7) := ⟨_, rfl⟩
  rw [← hE]
  have HE := Hd hE
  clear hE
  go_enter Tryz.func23, Tryz.ntmps23
  go_wp2_with fail
  refine HN.out.mono ?_
  rintro e w2 ⟨hb2, ⟨hne, rfl⟩ | ⟨b, d2, m2, q, hne, hdl, hfd, hm, hab, rfl, hw, hma⟩⟩
  · exact absurd HNE.out hne
  rw [HFD.out] at hfd
  cases hfd
  rw [HMm.out] at hm
  cases hm
  have HB2 := Hd hb2
  have HW := Hd hw
  have HMA := Hd hma
  have HMO := Hd (good_mok HG.out hdl (List.mem_of_getElem? HMm.out) hab)
  have htb := HTB.out d hdl m (List.mem_of_getElem? HMm.out)
  have HTY := Hd htb
  have hcode := HMO.out.flow.len
  obtain ⟨w4, hw4⟩ : ∃ w4, w4 = ((w2.alloc (.cells (mArr m q) 39)).alloc (.map #[] 0)).alloc (.cells (wkArr b m q (w2.heap.size + 1)) 119) := ⟨_, rfl⟩
  have HB4 := Hd (show Below w2.heap.size w2 w4 by rw [hw4]; exact bl_alloc (bl_alloc (bl_alloc (Below.refl _ _) _) _) _)
  have hs4 : w4.heap.size = w2.heap.size + 1 + 1 + 1 := by rw [hw4]; simp
  have HT4 := Hd (show Blk w4 w2.heap.size 39 (mArr m q) by rw [hw4]; exact ((blk_new _ _ _ _ rfl).alloc _).alloc _)
  have HK4 := Hd (show Blk w4 (w2.heap.size + 1 + 1) 119 (wkArr b m q (w2.heap.size + 1)) by rw [hw4]; exact blk_new _ _ _ _ (by simp))
  have HI4 := Hd (show IMap w4 (w2.heap.size + 1) 0 (fun _ => none) by
    rw [hw4]
    have e9 : (w2.alloc (.cells (mArr m q) 39)).heap.size = w2.heap.size + 1 := by simp
    have h9 := IMap.made (w2.alloc (.cells (mArr m q) 39))
    rw [e9] at h9
    exact h9.kept (Below.heap_alloc _ _ _ (by simp)))
  have hs2 := HB2.out.size
  have hmk := run_makeMap (P := Tryz.prog) 102
  have hT0 : ∀ W, W = w2.alloc (.cells (mArr m q) 39) → Blk W w2.heap.size 39 (mArr m q) := fun W e => by rw [e]; exact blk_new _ _ _ _ rfl
  have hcode := HMO.out.flow.len
  obtain ⟨w4, hw4⟩ : ∃ w4, w4 = ((w2.alloc (.cells (mArr m q) 39)).alloc (.map #[] 0)).alloc (.cells (wkArr b m q (w2.heap.size + 1)) 119) := ⟨_, rfl⟩
  have HB4 := Hd (show Below w2.heap.size w2 w4 by rw [hw4]; exact bl_alloc (bl_alloc (bl_alloc (Below.refl _ _) _) _) _)
  have hs4 : w4.heap.size = w2.heap.size + 1 + 1 + 1 := by rw [hw4]; simp
  have HT4 := Hd (show Blk w4 w2.heap.size 39 (mArr m q) by rw [hw4]; exact ((blk_new _ _ _ _ rfl).alloc _).alloc _)
  have HK4 := Hd (show Blk w4 (w2.heap.size + 1 + 1) 119 (wkArr b m q (w2.heap.size + 1)) by rw [hw4]; exact blk_new _ _ _ _ (by simp))
  have HI4 := Hd (show IMap w4 (w2.heap.size + 1) 0 (fun _ => none) by
    rw [hw4]
    have e9 : (w2.alloc (.cells (mArr m q) 39)).heap.size = w2.heap.size + 1 := by simp
    have h9 := IMap.made (w2.alloc (.cells (mArr m q) 39))
    rw [e9] at h9
    exact h9.kept (Below.heap_alloc _ _ _ (by simp)))
  have hs2 := HB2.out.size
  have hmk := run_makeMap (P := Tryz.prog) 102
  have hT0 : ∀ W, W = w2.alloc (.cells (mArr m q) 39) → Blk W w2.heap.size 39 (mArr m q) := fun W e => by rw [e]; exact blk_new _ _ _ _ rfl
  unfold methV
  unfold mArr wkArr at hw4
  clear hb2 hw hma htb hdl hab hne
  go_upto_region 7 with fail
  rw [← hw4]
  clear hw4 hmk
  go_wp2_with fail
  go_loopw [38] (fun i wr => ∃ (j n : Nat) (F : Int → Option Value), j ≤ L.length ∧ i = .int .i64 j ∧ Below w2.heap.size w2 wr ∧ Blk wr w2.heap.size 39 (mArr m q) ∧ Blk wr (w2.heap.size + 1 + 1) 119 (wkArr b m q (w2.heap.size + 1)) ∧ IMap wr (w2.heap.size + 1) n F ∧ Hid (∀ y, FrC w (mapM (L.take j) y) (F y))) (fun i _ => L.length - (RowKit.intOf i).toNat)
  case atStart => exact ⟨0, 0, fun _ => none, by omega, rfl, HB4.out, HT4.out, HK4.out, HI4.out, Hd (fun y => by simp [mapM, FrC])⟩
  case round =>
    obtain ⟨j, n, F, hj, rfl, hb, ht, hkb, him, HFC⟩ := hrel
    have HBk := Hd hb
    have HBw := Hd (show Below w.heap.size w wr from HB2.out.trans (hb.mono hs2))
    have HTk := Hd ht
    have HKk := Hd hkb
    have HIM := Hd him
    clear hb ht hkb him
    by_cases hlj : j < L.length
    · obtain ⟨x, hx⟩ : ∃ x, L[j]? = some x := ⟨_, List.getElem?_eq_getElem hlj⟩
      have hxm := List.mem_of_getElem? hx
      obtain ⟨bm, off, qx, hqa, hlt, hqx, hfx, d0, d1, d2⟩ := (HI.out.below HBw.out).cells hx
      have hfw := HI.out.frs j x qx hx hqx
      have hxl := HIN.out x hxm
      have hxk := HK.out x hxm
      have HFW := Hd hfw
      have HX := Hd hx
      have HXK := Hd hxk
      subst hqa
      have hj0 : (0 : Int) ≤ (j : Int) := Int.natCast_nonneg _
      have hji : (j : Int) < (L.length : Int) := by omega
      obtain ⟨w5, hw5⟩ : ∃ w5, w5 = wr.alloc (.cells #[.int .i64 x.1, .slice qx.la x.2.loc.length qx.lc, .slice qx.sa x.2.st.length qx.sc] 62) := ⟨_, rfl⟩
      have hb5 : Below wr.heap.size wr w5 := by rw [hw5]; exact bl_alloc (Below.refl _ _) _
      have HM5 := Hd (show Blk w5 wr.heap.size 62 #[.int .i64 x.1, .slice qx.la x.2.loc.length qx.lc, .slice qx.sa x.2.st.length qx.sc] by rw [hw5]; exact blk_new _ _ _ _ rfl)
      have HT5 := Hd (HTk.out.below hb5)
      have HK5 := Hd (HKk.out.below hb5)
      have HIM5 := Hd (HIM.out.below hb5)
      have HB5 := Hd (HBk.out.trans (hb5.mono HBk.out.size))
      have HB5w := Hd (show Below w.heap.size w w5 from bl_trans HBw.out hb5)
      have hs5 := hb5.size
      have HPREV := Hd (fun j' (e : j = j' + 1) => (show ∃ x', L[j']? = some x' ∧ x'.1 < x.1 ∧ w5.cell? ⟨bm, off + j' * 3, none⟩ = some (.int .i64 x'.1) from by
        obtain ⟨x', hx'⟩ : ∃ x', L[j']? = some x' := ⟨_, List.getElem?_eq_getElem (by omega)⟩
        obtain ⟨bm', off', q', ha', _, _, _, g0, _, _⟩ := (HI.out.below HB5w.out).cells hx'
        cases ha'
        exact ⟨x', hx', HINC.out j' j x' x (by omega) hx' HX.out, g0⟩))
      have HFCK := Hd (fun k => frcheck_calls l ps a cap x.2 qx (w5.drewN k) (HC.out.below (below_dn HB5w.out k)) (HFm.out.below (below_dn HB5w.out k)) HBd.out (hfw.below (below_dn HB5w.out k)) (fun y hy => by
        have h8 := hxk.kn y hy
        by_cases e1 : y = [78] ∨ y = [84]
        · rcases e1 with e | e <;> rw [e] <;> simp
        · by_cases e2 : TypeOk y
          · have := type_len25 e2; omega
          · rw [kind_bad e1 e2] at h8; cases h8))
      have hfc0 : fcErr l x.2 = 0 := by unfold fcErr; rw [if_neg (by simp [good_read HG.out])]; exact hxk.chk
      simp only [hfc0, errOf_zero] at HFCK
      have y0 := HM5.out.cell 0
      have y1 := HM5.out.lt
      have y4 := fun k => (HM5.out.drewN k).cell 1
      have y5 := fun k => (HM5.out.drewN k).cell 2
      have y2 := (mblk_cells HT5.out).2.2.2.2.2.2.1
      have y3 := HT5.out.lt
      clear hx hxm hfx hqx hfw hxk hb5
      go_upto_region 10 with fail
      rw [← hw5]
      clear hw5 d0 d1 d2
      have hnl : ¬ ((x.1 : Nat) : Int) < 0 := by omega
      have hgl : ¬ (m.code.length : Int) ≤ ((x.1 : Nat) : Int) := by omega
      have hb1 : decide (((x.1 : Nat) : Int) < 0) = false := decide_eq_false hnl
      have hb2 : decide ((m.code.length : Int) ≤ ((x.1 : Nat) : Int)) = false := decide_eq_false hgl
      by_cases hj1 : j = 0
      · subst hj1
        go_quiet (fail)
        go_wp2_with fail
        refine (HFCK.out _).mono ?_
        rintro e w6 ⟨rfl, hb6⟩
        have hb56 : Below w5.heap.size w5 w6 := bl_trans (below_dn (Below.refl w5.heap.size w5) _) hb6
        obtain ⟨w7, hst7, hI7, hg7⟩ := IMap.set (P := Tryz.prog) (w := w6.drew) (k := 3) (t := 102) (e := 60) Tryz.underlying3 Tryz.underlying102 (show IMap w6.drew (w2.heap.size + 1) n F from HIM5.out.below hb56.drew) (wf_nat x.1 (by omega)) (frV x.2 qx)
        have HI7 := Hd hI7
        have HG7 := Hd (show w6.grownBy w7 (some (w2.heap.size + 1)) from gb_trans (gb_drew (gb_refl w6 _)) hg7)
        have HM6 := Hd (HM5.out.below hb56)
        have HT6 := Hd (HT5.out.below hb56)
        have HK6 := Hd (HK5.out.below hb56)
        have HB6 := Hd (HB5.out.trans (hb56.mono HB5.out.size))
        have hs6 := HB6.out.size
        have hlt5 := HM5.out.lt
        have p0 := HM6.out.cell 0
        have p1 := HM6.out.cell 1
        have p2 := HM6.out.cell 2
        have p3 := HM6.out.lt
        have p4 := HK6.out.cell 9
        have p5 := HK6.out.lt
        have HT7 := Hd (gb_blk HG7.out HT6.out (by omega))
        have HK7 := Hd (gb_blk HG7.out HK6.out (by omega))
        have HB7 := Hd (HB6.out.grown HG7.out hs6 (fun k hk => by cases hk; omega))
        have HFC7 := Hd (show ∀ y, FrC w (mapM (L.take (0 + 1)) y) (putf F x.1 (frV x.2 qx) y) from fun y => by
          rw [mapM_snoc HINC.out HX.out]
          unfold updF putf
          by_cases e : y = (x.1 : Int)
          · rw [if_pos e, if_pos e]; exact ⟨qx, rfl, HFW.out⟩
          · rw [if_neg e, if_neg e]; exact HFC.out y)
        unfold wkArr at p4
        unfold frV at hst7
        clear hb6 hb56 hI7 hg7 y0 y1 y2 y3 y4 y5
        go_upto_region 15 with fail
        go_region
        go_wp2_with fail
        go_roundw
        case rel => exact ⟨0 + 1, n + 1, _, by omega, by go_num, HB7.out, HT7.out, HK7.out, HI7.out, HFC7⟩
        case measure => simp [RowKit.intOf]; omega
      · obtain ⟨j', rfl⟩ : ∃ j', j = j' + 1 := ⟨j - 1, by omega⟩
        obtain ⟨x', _, hlt', g0⟩ := HPREV.out j' rfl
        have hle' : ¬ ((x.1 : Nat) : Int) ≤ ((x'.1 : Nat) : Int) := by omega
        have hb3 : decide (((x.1 : Nat) : Int) ≤ ((x'.1 : Nat) : Int)) = false := decide_eq_false hle'
        have hb4 : decide ((0 : Int) < ((j' + 1 : Nat) : Int)) = true := decide_eq_true (by omega)
        have hwr : IntKind.i64.wrap (j' : Int) = (j' : Int) := by rw [IntKind.wrap_i64]; omega
        have hjq : (0 : Int) ≤ (j' : Int) := Int.natCast_nonneg _
        have hjr : (j' : Int) < (L.length : Int) := by omega
        go_quiet (fail)
        go_wp2_with fail
        refine (HFCK.out _).mono ?_
        rintro e w6 ⟨rfl, hb6⟩
        have hb56 : Below w5.heap.size w5 w6 := bl_trans (below_dn (Below.refl w5.heap.size w5) _) hb6
        obtain ⟨w7, hst7, hI7, hg7⟩ := IMap.set (P := Tryz.prog) (w := w6.drew) (k := 3) (t := 102) (e := 60) Tryz.underlying3 Tryz.underlying102 (show IMap w6.drew (w2.heap.size + 1) n F from HIM5.out.below hb56.drew) (wf_nat x.1 (by omega)) (frV x.2 qx)
        have HI7 := Hd hI7
        have HG7 := Hd (show w6.grownBy w7 (some (w2.heap.size + 1)) from gb_trans (gb_drew (gb_refl w6 _)) hg7)
        have HM6 := Hd (HM5.out.below hb56)
        have HT6 := Hd (HT5.out.below hb56)
        have HK6 := Hd (HK5.out.below hb56)
        have HB6 := Hd (HB5.out.trans (hb56.mono HB5.out.size))
        have hs6 := HB6.out.size
        have hlt5 := HM5.out.lt
        have p0 := HM6.out.cell 0
        have p1 := HM6.out.cell 1
        have p2 := HM6.out.cell 2
        have p3 := HM6.out.lt
        have p4 := HK6.out.cell 9
        have p5 := HK6.out.lt
        have HT7 := Hd (gb_blk HG7.out HT6.out (by omega))
        have HK7 := Hd (gb_blk HG7.out HK6.out (by omega))
        have HB7 := Hd (HB6.out.grown HG7.out hs6 (fun k hk => by cases hk; omega))
        have HFC7 := Hd (show ∀ y, FrC w (mapM (L.take ((j' + 1) + 1)) y) (putf F x.1 (frV x.2 qx) y) from fun y => by
          rw [mapM_snoc HINC.out HX.out]
          unfold updF putf
          by_cases e : y = (x.1 : Int)
          · rw [if_pos e, if_pos e]; exact ⟨qx, rfl, HFW.out⟩
          · rw [if_neg e, if_neg e]; exact HFC.out y)
        unfold wkArr at p4
        unfold frV at hst7
        clear hb6 hb56 hI7 hg7 y0 y1 y2 y3 y4 y5
        go_upto_region 15 with fail
        go_region
        go_wp2_with fail
        go_roundw
        case rel => exact ⟨(j' + 1) + 1, n + 1, _, by omega, by go_num, HB7.out, HT7.out, HK7.out, HI7.out, HFC7⟩
        case measure => simp [RowKit.intOf]; omega
    · obtain rfl : j = L.length := by omega
      have HFCL := Hd (show ∀ y, FrC w (mapM L y) (F y) from by have h9 := HFC.out; rw [List.take_length] at h9; exact h9)
      have HMK := Hd (show ∀ z g, mapM L z = some g → KOk (wl l) g from fun z g hz => by
        unfold mapM at hz
        obtain ⟨x, hx, rfl⟩ := Option.map_eq_some_iff.1 hz
        exact HK.out x (List.mem_of_find?_eq_some hx))
      have HCL := Hd (walk_calls l (wcp l ps) (w2.heap.size + 1 + 1) (w2.heap.size + 1) b c m q (mapM L) wr (HW.out.below HBk.out) ⟨HKk.out, frsAt_of HIM.out HFCL.out HBw.out⟩ (HMA.out.below HBk.out) HMO.out hc HTY.out.1 HTY.out.2 HMK.out)
      go_wp2_with fail
      refine HCL.out.mono ?_
      rintro e w3 ⟨rfl, hb3⟩
      have HB9 := Hd (bl_trans HBw.out hb3)
      have HE9 := HE.out
      cases hwb : walkB (wl l) c m (mapM L) with
      | true =>
        rw [hwb, if_pos rfl] at HE9
        go_wp2_with fail
        go_ret
        exact ⟨by rw [HE9]; rfl, HB9.out⟩
      | false =>
        rw [hwb, if_neg (by simp)] at HE9
        go_wp2_with fail
        go_ret
        exact ⟨by rw [HE9]; rfl, HB9.out⟩
end Go.Proofs.YtfddgdbebhmcnaaGreatDoor
namespace Go.Proofs.YtfddgdbebhmcnaaGreatDoor
set_option linter.unusedVariables false
set_option linter.unusedSimpArgs false
theorem mapsUp_mem {fr : Int → Option FrR} {n : Nat} {x : Nat × FrR} : x ∈ mapsUp fr n ↔ x.1 < n ∧ fr (x.1 : Int) = some x.2 := by
  unfold mapsUp
  rw [List.mem_filterMap]
  constructor
  · rintro ⟨i, hi, h⟩
    rw [List.mem_range] at hi
    obtain ⟨f, hf, rfl⟩ := Option.map_eq_some_iff.1 h
    exact ⟨hi, hf⟩
  · rintro ⟨h1, h2⟩
    exact ⟨x.1, List.mem_range.2 h1, by rw [h2]; rfl⟩
theorem incr_snoc {L : List (Nat × FrR)} {x : Nat × FrR} (h : Incr L) (hx : ∀ y ∈ L, y.1 < x.1) : Incr (L ++ [x]) := by
  intro i j a b hij ha hb
  have hj := (List.getElem?_eq_some_iff.1 hb).1
  rw [List.length_append, List.length_singleton] at hj
  rw [List.getElem?_append_left (by omega)] at ha
  rcases Nat.lt_or_ge j L.length with hl | hl
  · rw [List.getElem?_append_left hl] at hb
    exact h i j a b hij ha hb
  · rw [List.getElem?_append_right hl, show j - L.length = 0 by omega] at hb
    simp only [List.getElem?_cons_zero, Option.some.injEq] at hb
    subst hb
    exact hx a (List.mem_of_getElem? ha)
theorem mapsUp_incr (fr : Int → Option FrR) : ∀ n, Incr (mapsUp fr n)
  | 0 => fun i j a b _ ha _ => by simp [mapsUp] at ha
  | n + 1 => by
    cases h : fr (n : Int) with
    | none => rw [mapsUp_none h]; exact mapsUp_incr fr n
    | some f => rw [mapsUp_some h]; exact incr_snoc (mapsUp_incr fr n) (fun y hy => (mapsUp_mem.1 hy).1)
theorem set_get {L : List (Nat × FrR)} {k : Nat} {x : Nat × FrR} {f : FrR} (hx : L[k]? = some x) {i : Nat} {a : Nat × FrR} (ha : (L.set k (x.1, f))[i]? = some a) : ∃ a', L[i]? = some a' ∧ a'.1 = a.1 ∧ ((i = k ∧ a = (x.1, f)) ∨ (i ≠ k ∧ a = a')) := by
  have hk := (List.getElem?_eq_some_iff.1 hx).1
  by_cases e : i = k
  · subst e
    rw [List.getElem?_set_self hk] at ha
    cases ha
    exact ⟨x, hx, rfl, Or.inl ⟨rfl, rfl⟩⟩
  · rw [List.getElem?_set_ne (fun h => e h.symm)] at ha
    exact ⟨a, ha, rfl, Or.inr ⟨e, rfl⟩⟩
theorem set_at {L : List (Nat × FrR)} {k : Nat} {x : Nat × FrR} {f : FrR} (hx : L[k]? = some x) {i : Nat} {a : Nat × FrR} (ha : L[i]? = some a) : ∃ g, (L.set k (x.1, f))[i]? = some (a.1, g) := by
  have hk := (List.getElem?_eq_some_iff.1 hx).1
  by_cases e : i = k
  · subst e
    rw [hx] at ha
    cases ha
    exact ⟨f, List.getElem?_set_self hk⟩
  · rw [List.getElem?_set_ne (fun h => e h.symm)]
    exact ⟨a.2, ha⟩
theorem incr_set {L : List (Nat × FrR)} {k : Nat} {x : Nat × FrR} {f : FrR} (h : Incr L) (hx : L[k]? = some x) : Incr (L.set k (x.1, f)) := by
  intro i j a b hij ha hb
  obtain ⟨a', h1, h2, _⟩ := set_get hx ha
  obtain ⟨b', h3, h4, _⟩ := set_get hx hb
  rw [← h2, ← h4]
  exact h i j a' b' hij h1 h3
theorem mapM_at {L : List (Nat × FrR)} (h : Incr L) {k : Nat} {x : Nat × FrR} (hx : L[k]? = some x) : mapM L (x.1 : Int) = some x.2 := by
  unfold mapM
  rw [find_at2 (q := fun y : Nat × FrR => (y.1 : Int) == (x.1 : Int)) (fun y hy => ?_) hx (by simp)]
  · rfl
  · obtain ⟨i, hi⟩ := List.mem_iff_getElem?.1 hy
    rw [List.getElem?_take] at hi
    split at hi
    · rename_i hlt
      have := h i k y x hlt hi hx
      rw [beq_eq_false_iff_ne]; omega
    · cases hi
theorem mapM_mem {L : List (Nat × FrR)} {z : Int} {g : FrR} (h : mapM L z = some g) : ∃ x ∈ L, x.2 = g := by
  unfold mapM at h
  obtain ⟨x, hx, rfl⟩ := Option.map_eq_some_iff.1 h
  exact ⟨x, List.mem_of_find?_eq_some hx, rfl⟩
theorem higher_no {l : List ClassR} {c : Nm} {m : MethR} {fr : Int → Option FrR} {f : FrR} {k : Nat} {x : Nat × FrR} (hg : Good l) (hm : MOk m) (hl : lookedF (wl l) c m = some fr) (hfr : ∀ z f, fr z = some f → KOk (wl l) f ∧ 0 ≤ z ∧ z < (m.code.length : Int))
    (hx : (mapsUp fr m.code.length)[k]? = some x) (h0 : fjErr l x.2 f = 0) (hs : sameB (joinF (wl l) x.2 f) f = false) : walkB (wl l) c m (mapM ((mapsUp fr m.code.length).set k (x.1, f))) = false := by
  have hI := incr_set (f := f) (mapsUp_incr fr m.code.length) hx
  have hk := (List.getElem?_eq_some_iff.1 hx).1
  have hkf : KOk (wl l) f := by
    obtain ⟨⟨h1, h2⟩, h3⟩ := chk_zero.1 (fj_zero.1 h0).2.2.1
    exact ⟨h1, h2, h3⟩
  have hM : ∀ z g, mapM ((mapsUp fr m.code.length).set k (x.1, f)) z = some g → KOk (wl l) g := fun z g h => by
    obtain ⟨y, hy, rfl⟩ := mapM_mem h
    obtain ⟨i, hi⟩ := List.mem_iff_getElem?.1 hy
    obtain ⟨a', h1, _, ⟨_, rfl⟩ | ⟨_, rfl⟩⟩ := set_get hx hi
    · exact hkf
    · exact (hfr _ _ (mapsUp_mem.1 (List.mem_of_getElem? h1)).2).1
  have hd : ∀ y, (fr y).isSome = true → (mapM ((mapsUp fr m.code.length).set k (x.1, f)) y).isSome = true := fun y hy => by
    obtain ⟨g, hg2⟩ := Option.isSome_iff_exists.1 hy
    obtain ⟨_, h1, h2⟩ := hfr y g hg2
    obtain ⟨t, rfl⟩ := Int.eq_ofNat_of_zero_le h1
    have hmem : (t, g) ∈ mapsUp fr m.code.length := mapsUp_mem.2 ⟨by simpa using h2, hg2⟩
    obtain ⟨i, hi⟩ := List.mem_iff_getElem?.1 hmem
    obtain ⟨g2, h3⟩ := set_at (f := f) hx hi
    rw [mapM_at hI h3]; rfl
  cases hw : walkB (wl l) c m (mapM ((mapsUp fr m.code.length).set k (x.1, f))) with
  | false => rfl
  | true =>
    unfold walkB at hw
    split at hw
    · cases hw
    split at hw
    · cases hw
    obtain ⟨q, h1, h2⟩ := maps_above hg hm hl hd hM hw x.1 x.2 (mapsUp_mem.1 (List.mem_of_getElem? hx)).2
    have h3 := mapM_at hI (x := (x.1, f)) (List.getElem?_set_self hk)
    rw [h3] at h1
    cases h1
    rw [h2.join, sameB_true.2 rfl] at hs
    cases hs
end Go.Proofs.YtfddgdbebhmcnaaGreatDoor
