/-
  The walks of right.Found, right.Call.
-/
import Derived.Test.YtanjggdmgeedlaaGreatDoorFind2
namespace Go.Proofs.YtanjggdmgeedlaaGreatDoor
set_option linter.unusedVariables false
set_option linter.unusedSimpArgs false
open Go.RowKit Go.Shelf Go.Lib

def FouRes (L : List ClassR) (fr c n k : Nm) (st : Bool) (w : World) (e : Ending) (w' : World) : Prop :=
  Below w.heap.size w w' ∧ ((foundErr L fr c n k st ≠ 0 ∧ e = .returned (.tuple #[.string ⟨#[]⟩, methV zeroMR nilM, errV (foundErr L fr c n k st)])) ∨
    (foundErr L fr c n k st = 0 ∧ ∃ x m q, methOf L c n k = some (x, m) ∧ e = .returned (.tuple #[.string ⟨⟨x⟩⟩, methV m q, .nilIface])))

theorem found_noc {L : List ClassR} {fr c n k : Nm} {st : Bool} (h : (look L c).isSome = false) : foundErr L fr c n k st = 3 := by unfold foundErr; rw [if_pos (by simpa using h)]
theorem found_nom {L : List ClassR} {fr c n k : Nm} {st : Bool} (h : (look L c).isSome = true) (hm : methOf L c n k = none) : foundErr L fr c n k st = 3 := by
  unfold foundErr
  rw [if_neg (by intro q; rw [q] at h; cases h), hm]
theorem found_some {L : List ClassR} {fr c n k x : Nm} {m : MethR} {st : Bool} (h : (look L c).isSome = true) (hm : methOf L c n k = some (x, m)) : foundErr L fr c n k st = if look L fr = none then 3 else if m.stat ≠ st then 7 else if m.priv = true ∧ x ≠ fr then 9 else 0 := by
  unfold foundErr
  rw [if_neg (by intro q; rw [q] at h; cases h), hm]

set_option maxRecDepth 100000 in
set_option maxHeartbeats 4000000 in
theorem found_calls (l : List ClassR) (L : List CP) (b : Nat) (fr c n k : Nm) (st : Bool) (w : World) (hW : WOk w b l L) (hfr : fr.length ≤ 1048576) (hc : c.length ≤ 1048576) :
    Calls Tryz.prog 160 #[.map (some b), .string ⟨⟨fr⟩⟩, .string ⟨⟨c⟩⟩, .string ⟨⟨n⟩⟩, .string ⟨⟨k⟩⟩, .bool st] w (FouRes (wl l) fr c n k st w) := by
  have HW := Lib.hid hW
  have HCL := Lib.hid hW.cl
  have hml : (1048576 : Nat) ≤ maxLen := by unfold maxLen; omega
  have HB0 := Lib.hid (fun o => (Below.refl w.heap.size w).alloc (Nat.le_refl _) o)
  have HZ0 := Lib.hid (blk_new w w.heap.size 63 (mArr zeroMR nilM) rfl)
  have hlk := cur_look2 (n := c) (hW.below (HB0.out (.cells #[.string ⟨#[]⟩, .string ⟨#[]⟩, .bool false, .bool false, .bool false, .int .i64 0, .slice none 0 0, .slice none 0 0] 63))).at_ (Nat.le_trans hc hml)
  have hz0 : w.heap.size < (w.alloc (.cells #[.string ⟨#[]⟩, .string ⟨#[]⟩, .bool false, .bool false, .bool false, .int .i64 0, .slice none 0 0, .slice none 0 0] 63)).heap.size := by simp
  have HZL := Lib.hid hz0
  clear hW hz0
  cases hs : (look (wl l) c).isSome with
  | false =>
    have HE := Lib.hid (found_noc (fr := fr) (n := n) (k := k) (st := st) hs)
    rw [HCL.out, hs] at hlk
    unfold classV at hlk
    clear hs
    go_enter Tryz.func160, Tryz.ntmps160
    go_wp2_with (refine wpList_store_blk (x := .tmp 13) (y := .tmp 30) (ty := 63) (g := w.heap.size) (cells := mArr zeroMR nilM) (by rfl) (by rfl) (by rfl) (by rfl) (HZ0.out.below ((Below.refl _ _).alloc (Nat.le_refl _) _)) info_meth rfl (mArr_one zeroMR nilM) ?_)
    intro W2 hbk hgr
    obtain ⟨d0, d1, d2, d3, d4, d5, d6, d7⟩ := mblk_cells hbk
    have HB9 := Lib.hid (below_grown ((HB0.out _).alloc (by simp) _) hgr (Nat.le_refl _) (by first | omega | (simp; done) | (simp; omega)))
    clear hbk hgr
    go_wp2_with fail
    exact bodyPost_ret (v := .tuple #[.string ⟨#[]⟩, methV zeroMR nilM, errV 3]) (by simp [results, Tryz.results160, go_sem, d0, d1, d2, d3, d4, d5, d6, d7, methV]) rfl ⟨HB9.out, Or.inl ⟨by rw [HE.out]; omega, by rw [HE.out]⟩⟩
  | true =>
    have HS := Lib.hid hs
    rw [HCL.out, hs] at hlk
    unfold classV at hlk
    have HB1 := Lib.hid ((HB0.out (.cells #[.string ⟨#[]⟩, .string ⟨#[]⟩, .bool false, .bool false, .bool false, .int .i64 0, .slice none 0 0, .slice none 0 0] 63)).alloc (by simp) (.cells #[.string ⟨⟨(curP L c).1.nm⟩⟩, .string ⟨⟨(curP L c).1.sup⟩⟩, .slice (curP L c).2.fa (curP L c).1.faces.length (curP L c).2.fc, .bool (curP L c).1.face, .slice (curP L c).2.ga (curP L c).1.fields.length (curP L c).2.gc, .slice (curP L c).2.ma (curP L c).1.meths.length (curP L c).2.mc] 56))
    have HZ1 := Lib.hid (HZ0.out.below ((Below.refl _ (w.alloc (.cells #[.string ⟨#[]⟩, .string ⟨#[]⟩, .bool false, .bool false, .bool false, .int .i64 0, .slice none 0 0, .slice none 0 0] 63))).alloc (Nat.le_refl _) (.cells #[.string ⟨⟨(curP L c).1.nm⟩⟩, .string ⟨⟨(curP L c).1.sup⟩⟩, .slice (curP L c).2.fa (curP L c).1.faces.length (curP L c).2.fc, .bool (curP L c).1.face, .slice (curP L c).2.ga (curP L c).1.fields.length (curP L c).2.gc, .slice (curP L c).2.ma (curP L c).1.meths.length (curP L c).2.mc] 56)))
    have HMO := Lib.hid (mof_calls l L b c n k _ (HW.out.below HB1.out) hc)
    clear hs
    go_enter Tryz.func160, Tryz.ntmps160
    go_wp2_with fail
    refine HMO.out.mono ?_
    rintro e w4 ⟨hb4, ⟨hn, rfl⟩ | ⟨x, m, q, hm, hq, rfl⟩⟩
    · have HE := Lib.hid (found_nom (fr := fr) (n := n) (k := k) (st := st) HS.out hn)
      have HB4 := Lib.hid (HB1.out.trans (hb4.mono HB1.out.size))
      have HZ4 := Lib.hid (HZ1.out.below hb4)
      have hs4 := HB4.out.size
      clear hb4 hn hlk
      unfold methV
      go_wp2_with (refine wpList_store_blk (x := .tmp 13) (y := .tmp 43) (ty := 63) (g := w.heap.size) (cells := mArr zeroMR nilM) (by rfl) (by rfl) (by rfl) (by rfl) (HZ4.out.below ((Below.refl _ _).alloc (Nat.le_refl _) _)) info_meth rfl (mArr_one zeroMR nilM) ?_)
      intro W2 hbk hgr
      obtain ⟨d0, d1, d2, d3, d4, d5, d6, d7⟩ := mblk_cells hbk
      have HB9 := Lib.hid (below_grown (HB4.out.alloc hs4 _) hgr (Nat.le_refl _) (by first | omega | (simp; done) | (simp; omega)))
      clear hbk hgr
      go_wp2_with fail
      exact bodyPost_ret (v := .tuple #[.string ⟨#[]⟩, methV zeroMR nilM, errV 3]) (by simp [results, Tryz.results160, go_sem, d0, d1, d2, d3, d4, d5, d6, d7, methV]) rfl ⟨HB9.out, Or.inl ⟨by rw [HE.out]; omega, by rw [HE.out]⟩⟩
    · have HE := Lib.hid (found_some (fr := fr) (st := st) HS.out hm)
      have HM := Lib.hid hm
      have HB4 := Lib.hid (HB1.out.trans (hb4.mono HB1.out.size))
      have HZ4 := Lib.hid (HZ1.out.below hb4)
      have hs4 := HB4.out.size
      have HB5 := Lib.hid (HB4.out.alloc hs4 (.cells #[.string ⟨⟨m.nm⟩⟩, .string ⟨⟨m.ty⟩⟩, .bool m.stat, .bool m.abst, .bool m.priv, .int .i64 m.loc, .slice q.ca m.code.length q.cc, .slice q.ha m.hs.length q.hc] 63))
      have HZ5 := Lib.hid (HZ4.out.below ((Below.refl _ w4).alloc (Nat.le_refl _) (.cells #[.string ⟨⟨m.nm⟩⟩, .string ⟨⟨m.ty⟩⟩, .bool m.stat, .bool m.abst, .bool m.priv, .int .i64 m.loc, .slice q.ca m.code.length q.cc, .slice q.ha m.hs.length q.hc] 63)))
      have hlk5 := cur_look2 (n := fr) (HW.out.below HB5.out).at_ (Nat.le_trans hfr hml)
      have HMB := Lib.hid (blk_new w4 w4.heap.size 63 (mArr m q) rfl)
      rw [HCL.out] at hlk5
      unfold classV at hlk5
      clear hb4 hm hq hlk
      unfold methV
      cases hf : (look (wl l) fr).isSome with
      | false =>
        have HE2 := Lib.hid (show foundErr (wl l) fr c n k st = 3 by rw [HE.out, if_pos (by simpa using hf)])
        rw [hf] at hlk5
        clear hf
        go_wp2_with (refine wpList_store_blk (x := .tmp 13) (y := .tmp 53) (ty := 63) (g := w.heap.size) (cells := mArr zeroMR nilM) (by rfl) (by rfl) (by rfl) (by rfl) (HZ5.out.below ((Below.refl _ _).alloc (Nat.le_refl _) _)) info_meth rfl (mArr_one zeroMR nilM) ?_)
        intro W2 hbk hgr
        obtain ⟨d0, d1, d2, d3, d4, d5, d6, d7⟩ := mblk_cells hbk
        have HB9 := Lib.hid (below_grown (HB5.out.alloc (by simp; omega) _) hgr (Nat.le_refl _) (by first | omega | (simp; done) | (simp; omega)))
        clear hbk hgr
        go_wp2_with fail
        exact bodyPost_ret (v := .tuple #[.string ⟨#[]⟩, methV zeroMR nilM, errV 3]) (by simp [results, Tryz.results160, go_sem, d0, d1, d2, d3, d4, d5, d6, d7, methV]) rfl ⟨HB9.out, Or.inl ⟨by rw [HE2.out]; omega, by rw [HE2.out]⟩⟩
      | true =>
        rw [hf] at hlk5
        have HNF := Lib.hid (show ¬ look (wl l) fr = none by intro q; rw [q] at hf; cases hf)
        have HB6 := Lib.hid (HB5.out.alloc (by simp; omega) (.cells #[.string ⟨⟨(curP L fr).1.nm⟩⟩, .string ⟨⟨(curP L fr).1.sup⟩⟩, .slice (curP L fr).2.fa (curP L fr).1.faces.length (curP L fr).2.fc, .bool (curP L fr).1.face, .slice (curP L fr).2.ga (curP L fr).1.fields.length (curP L fr).2.gc, .slice (curP L fr).2.ma (curP L fr).1.meths.length (curP L fr).2.mc] 56))
        have HZ6 := Lib.hid (HZ5.out.below ((Below.refl _ (w4.alloc (.cells #[.string ⟨⟨m.nm⟩⟩, .string ⟨⟨m.ty⟩⟩, .bool m.stat, .bool m.abst, .bool m.priv, .int .i64 m.loc, .slice q.ca m.code.length q.cc, .slice q.ha m.hs.length q.hc] 63))).alloc (Nat.le_refl _) (.cells #[.string ⟨⟨(curP L fr).1.nm⟩⟩, .string ⟨⟨(curP L fr).1.sup⟩⟩, .slice (curP L fr).2.fa (curP L fr).1.faces.length (curP L fr).2.fc, .bool (curP L fr).1.face, .slice (curP L fr).2.ga (curP L fr).1.fields.length (curP L fr).2.gc, .slice (curP L fr).2.ma (curP L fr).1.meths.length (curP L fr).2.mc] 56)))
        have HMB6 := Lib.hid (Blk.below (show Blk (w4.alloc (.cells #[.string ⟨⟨m.nm⟩⟩, .string ⟨⟨m.ty⟩⟩, .bool m.stat, .bool m.abst, .bool m.priv, .int .i64 m.loc, .slice q.ca m.code.length q.cc, .slice q.ha m.hs.length q.hc] 63)) w4.heap.size 63 (mArr m q) from HMB.out) ((Below.refl _ (w4.alloc (.cells #[.string ⟨⟨m.nm⟩⟩, .string ⟨⟨m.ty⟩⟩, .bool m.stat, .bool m.abst, .bool m.priv, .int .i64 m.loc, .slice q.ca m.code.length q.cc, .slice q.ha m.hs.length q.hc] 63))).alloc (Nat.le_refl _) (.cells #[.string ⟨⟨(curP L fr).1.nm⟩⟩, .string ⟨⟨(curP L fr).1.sup⟩⟩, .slice (curP L fr).2.fa (curP L fr).1.faces.length (curP L fr).2.fc, .bool (curP L fr).1.face, .slice (curP L fr).2.ga (curP L fr).1.fields.length (curP L fr).2.gc, .slice (curP L fr).2.ma (curP L fr).1.meths.length (curP L fr).2.mc] 56)))
        clear hf
        cases hst : m.stat == st with
        | false =>
          have HE2 := Lib.hid (show foundErr (wl l) fr c n k st = 7 by rw [HE.out, if_neg HNF.out, if_pos (by simpa using hst)])
          have hst2 : (m.stat != st) = true := by simp [bne, hst]
          go_wp2_with (refine wpList_store_blk (x := .tmp 13) (y := .tmp 59) (ty := 63) (g := w.heap.size) (cells := mArr zeroMR nilM) (by rfl) (by rfl) (by rfl) (by rfl) HZ6.out info_meth rfl (mArr_one zeroMR nilM) ?_)
          intro W2 hbk hgr
          obtain ⟨d0, d1, d2, d3, d4, d5, d6, d7⟩ := mblk_cells hbk
          have HB9 := Lib.hid (below_grown HB6.out hgr (Nat.le_refl _) (by first | omega | (simp; done) | (simp; omega)))
          clear hbk hgr
          go_wp2_with fail
          exact bodyPost_ret (v := .tuple #[.string ⟨#[]⟩, methV zeroMR nilM, errV 7]) (by simp [results, Tryz.results160, go_sem, d0, d1, d2, d3, d4, d5, d6, d7, methV]) rfl ⟨HB9.out, Or.inl ⟨by rw [HE2.out]; omega, by rw [HE2.out]⟩⟩
        | true =>
          have est := eq_of_beq hst
          clear hst
          subst est
          obtain ⟨mn, mt, ms, mab, mp, mlo, mco, mhs⟩ := m
          dsimp only at *
          cases mp with
          | false =>
            have HE2 := Lib.hid (show foundErr (wl l) fr c n k ms = 0 by rw [HE.out, if_neg HNF.out, if_neg (by simp), if_neg (by simp)])
            go_wp2_with fail
            refine wp_tail 3 (by kernel_rfl) (by kernel_rfl) ?_
            simp only [List.take_succ_cons, List.take_zero, List.drop_succ_cons, List.drop_zero]
            repeat still_step
            refine wpStill_nil ?_
            go_wp2_with (refine wpList_store_blk (x := .tmp 13) (y := .tmp 71) (ty := 63) (g := w.heap.size) (cells := mArr ⟨mn, mt, ms, mab, false, mlo, mco, mhs⟩ q) (by rfl) (by rfl) (by rfl) (by rfl) HZ6.out.drew info_meth rfl (mArr_one ⟨mn, mt, ms, mab, false, mlo, mco, mhs⟩ q) ?_)
            intro W2 hbk hgr
            obtain ⟨d0, d1, d2, d3, d4, d5, d6, d7⟩ := mblk_cells hbk
            have HB9 := Lib.hid (below_grown HB6.out.drew hgr (Nat.le_refl _) (by first | omega | (simp; done) | (simp; omega)))
            clear hbk hgr
            go_wp2_with fail
            exact bodyPost_ret (v := .tuple #[.string ⟨⟨x⟩⟩, methV ⟨mn, mt, ms, mab, false, mlo, mco, mhs⟩ q, .nilIface]) (by simp [results, Tryz.results160, go_sem, d0, d1, d2, d3, d4, d5, d6, d7, methV]) rfl ⟨HB9.out, Or.inr ⟨HE2.out, x, ⟨mn, mt, ms, mab, false, mlo, mco, mhs⟩, q, HM.out, rfl⟩⟩
          | true =>
            cases hx : x == fr with
            | false =>
              have HE2 := Lib.hid (show foundErr (wl l) fr c n k ms = 9 by rw [HE.out, if_neg HNF.out, if_neg (by simp), if_pos ⟨rfl, by simpa using hx⟩])
              have hx2 : (x != fr) = true := by simp [bne, hx]
              go_wp2_with (refine wpList_store_blk (x := .tmp 13) (y := .tmp 68) (ty := 63) (g := w.heap.size) (cells := mArr zeroMR nilM) (by rfl) (by rfl) (by rfl) (by rfl) HZ6.out info_meth rfl (mArr_one zeroMR nilM) ?_)
              intro W2 hbk hgr
              obtain ⟨d0, d1, d2, d3, d4, d5, d6, d7⟩ := mblk_cells hbk
              have HB9 := Lib.hid (below_grown HB6.out hgr (Nat.le_refl _) (by first | omega | (simp; done) | (simp; omega)))
              clear hbk hgr
              go_wp2_with fail
              exact bodyPost_ret (v := .tuple #[.string ⟨#[]⟩, methV zeroMR nilM, errV 9]) (by simp [results, Tryz.results160, go_sem, d0, d1, d2, d3, d4, d5, d6, d7, methV]) rfl ⟨HB9.out, Or.inl ⟨by rw [HE2.out]; omega, by rw [HE2.out]⟩⟩
            | true =>
              have HE2 := Lib.hid (show foundErr (wl l) fr c n k ms = 0 by rw [HE.out, if_neg HNF.out, if_neg (by simp), if_neg (by intro q; exact q.2 (eq_of_beq hx))])
              have hx2 : (x != fr) = false := by simp [bne, hx]
              go_wp2_with fail
              refine wp_tail 3 (by kernel_rfl) (by kernel_rfl) ?_
              simp only [List.take_succ_cons, List.take_zero, List.drop_succ_cons, List.drop_zero]
              repeat still_step
              refine wpStill_nil ?_
              go_wp2_with (refine wpList_store_blk (x := .tmp 13) (y := .tmp 71) (ty := 63) (g := w.heap.size) (cells := mArr ⟨mn, mt, ms, mab, true, mlo, mco, mhs⟩ q) (by rfl) (by rfl) (by rfl) (by rfl) HZ6.out.drew info_meth rfl (mArr_one ⟨mn, mt, ms, mab, true, mlo, mco, mhs⟩ q) ?_)
              intro W2 hbk hgr
              obtain ⟨d0, d1, d2, d3, d4, d5, d6, d7⟩ := mblk_cells hbk
              have HB9 := Lib.hid (below_grown HB6.out.drew hgr (Nat.le_refl _) (by first | omega | (simp; done) | (simp; omega)))
              clear hbk hgr
              go_wp2_with fail
              exact bodyPost_ret (v := .tuple #[.string ⟨⟨x⟩⟩, methV ⟨mn, mt, ms, mab, true, mlo, mco, mhs⟩ q, .nilIface]) (by simp [results, Tryz.results160, go_sem, d0, d1, d2, d3, d4, d5, d6, d7, methV]) rfl ⟨HB9.out, Or.inr ⟨HE2.out, x, ⟨mn, mt, ms, mab, true, mlo, mco, mhs⟩, q, HM.out, rfl⟩⟩
end Go.Proofs.YtanjggdmgeedlaaGreatDoor
