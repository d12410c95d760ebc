import Derived.Test.YtddbnboicmaooaaGreatDoorSc
namespace Go.Proofs.YtddbnboicmaooaaGreatDoor
set_option maxRecDepth 100000
set_option maxHeartbeats 16000000
set_option linter.unusedVariables false
set_option linter.unusedSimpArgs false
open Go.RowKit Go.Shelf Go.Lib
def FouRes (L : List ClassR) (fr c n k : Nm) (st : Bool) (w : World) (e : Ending) (w' : World) : Prop :=
 Below w.heap.size w w' ∧ ((foundErr L fr c n k st ≠ 0 ∧ e = .returned (.tuple #[.string ⟨#[]⟩, methV zeroMR nilM, errV (foundErr L fr c n k st)])) ∨
   (foundErr L fr c n k st = 0 ∧ ∃ x m q, methOf L c n k = some (x, m) ∧ e = .returned (.tuple #[.string ⟨⟨x⟩⟩, methV m q, .nilIface])))
theorem found_noc {L : List ClassR} {fr c n k : Nm} {st : Bool} (h : (look L c).isSome = false) : foundErr L fr c n k st = 3 := by unfold foundErr; rw [if_pos (by simpa using h)]
theorem found_nom {L : List ClassR} {fr c n k : Nm} {st : Bool} (h : (look L c).isSome = true) (hm : methOf L c n k = none) : foundErr L fr c n k st = 3 := by
 unfold foundErr
 rw [if_neg (by intro q; rw [q] at h; cases h), hm]
theorem found_some {L : List ClassR} {fr c n k x : Nm} {m : MethR} {st : Bool} (h : (look L c).isSome = true) (hm : methOf L c n k = some (x, m)) : foundErr L fr c n k st = if look L fr = none then 3 else if m.stat ≠ st then 7 else if m.priv = true ∧ x ≠ fr then 9 else 0 := by
 unfold foundErr
 rw [if_neg (by intro q; rw [q] at h; cases h), hm]
theorem found_calls (l : List ClassR) (L : List CP) (b : Nat) (fr c n k : Nm) (st : Bool) (w : World) (hW : WOk w b l L) (hfr : fr.length ≤ 1048576) (hc : c.length ≤ 1048576) :
   Calls Tryz.prog 207 #[.map (some b), .string ⟨⟨fr⟩⟩, .string ⟨⟨c⟩⟩, .string ⟨⟨n⟩⟩, .string ⟨⟨k⟩⟩, .bool st] w (FouRes (wl l) fr c n k st w) := by
 have HW := Hd hW
 have HCL := Hd hW.cl
 have hml : (1048576 : Nat) ≤ maxLen := by unfold maxLen; omega
 have HB0 := Hd (fun o => (Below.refl w.heap.size w).alloc (Nat.le_refl _) o)
 have HZ0 := Hd (blk_new w w.heap.size 45 (mArr zeroMR nilM) rfl)
 have hlk := cur_look2 (n := c) (hW.below (HB0.out (.cells #[.string ⟨#[]⟩, .string ⟨#[]⟩, .bool false, .bool false, .bool false, .int .i64 0, .slice none 0 0, .slice none 0 0] 45))).at_ (Nat.le_trans hc hml)
 have hz0 : w.heap.size < (w.alloc (.cells #[.string ⟨#[]⟩, .string ⟨#[]⟩, .bool false, .bool false, .bool false, .int .i64 0, .slice none 0 0, .slice none 0 0] 45)).heap.size := by simp
 have HZL := Hd hz0
 clear hW hz0
 cases hs : (look (wl l) c).isSome with
 | false =>
   have HE := Hd (found_noc (fr := fr) (n := n) (k := k) (st := st) hs)
   rw [HCL.out, hs] at hlk
   unfold classV at hlk
   clear hs
   go_enter Tryz.func207, Tryz.ntmps207
   go_wp2_with (refine wpList_store_blk (x := .tmp 13) (y := .tmp 30) (ty := 45) (g := w.heap.size) (cells := mArr zeroMR nilM) (by rfl) (by rfl) (by rfl) (by rfl) (HZ0.out.below ((Below.refl _ _).alloc (Nat.le_refl _) _)) info_meth rfl (mArr_one zeroMR nilM) ?_)
   intro W2 hbk hgr
   obtain ⟨d0, d1, d2, d3, d4, d5, d6, d7⟩ := mblk_cells hbk
   have HB9 := Hd (below_grown ((HB0.out _).alloc (by simp) _) hgr (Nat.le_refl _) (by first | omega | (simp; done) | (simp; omega)))
   clear hbk hgr
   go_wp2_with fail
   exact bodyPost_ret (v := .tuple #[.string ⟨#[]⟩, methV zeroMR nilM, errV 3]) (by simp [results, Tryz.results207, go_sem, d0, d1, d2, d3, d4, d5, d6, d7, methV]) rfl ⟨HB9.out, Or.inl ⟨by rw [HE.out]; omega, by rw [HE.out]⟩⟩
 | true =>
   have HS := Hd hs
   rw [HCL.out, hs] at hlk
   unfold classV at hlk
   have HB1 := Hd ((HB0.out (.cells #[.string ⟨#[]⟩, .string ⟨#[]⟩, .bool false, .bool false, .bool false, .int .i64 0, .slice none 0 0, .slice none 0 0] 45)).alloc (by simp) (.cells #[.string ⟨⟨(curP L c).1.nm⟩⟩, .string ⟨⟨(curP L c).1.sup⟩⟩, .slice (curP L c).2.fa (curP L c).1.faces.length (curP L c).2.fc, .bool (curP L c).1.face, .slice (curP L c).2.ga (curP L c).1.fields.length (curP L c).2.gc, .slice (curP L c).2.ma (curP L c).1.meths.length (curP L c).2.mc] 50))
   have HZ1 := Hd (HZ0.out.below ((Below.refl _ (w.alloc (.cells #[.string ⟨#[]⟩, .string ⟨#[]⟩, .bool false, .bool false, .bool false, .int .i64 0, .slice none 0 0, .slice none 0 0] 45))).alloc (Nat.le_refl _) (.cells #[.string ⟨⟨(curP L c).1.nm⟩⟩, .string ⟨⟨(curP L c).1.sup⟩⟩, .slice (curP L c).2.fa (curP L c).1.faces.length (curP L c).2.fc, .bool (curP L c).1.face, .slice (curP L c).2.ga (curP L c).1.fields.length (curP L c).2.gc, .slice (curP L c).2.ma (curP L c).1.meths.length (curP L c).2.mc] 50)))
   have HMO := Hd (mof_calls l L b c n k _ (HW.out.below HB1.out) hc)
   clear hs
   go_enter Tryz.func207, Tryz.ntmps207
   go_wp2_with fail
   refine HMO.out.mono ?_
   rintro e w4 ⟨hb4, ⟨hn, rfl⟩ | ⟨x, m, q, hm, hq, rfl⟩⟩
   · have HE := Hd (found_nom (fr := fr) (n := n) (k := k) (st := st) HS.out hn)
     have HB4 := Hd (HB1.out.trans (hb4.mono HB1.out.size))
     have HZ4 := Hd (HZ1.out.below hb4)
     have hs4 := HB4.out.size
     clear hb4 hn hlk
     unfold methV
     go_wp2_with (refine wpList_store_blk (x := .tmp 13) (y := .tmp 43) (ty := 45) (g := w.heap.size) (cells := mArr zeroMR nilM) (by rfl) (by rfl) (by rfl) (by rfl) (HZ4.out.below ((Below.refl _ _).alloc (Nat.le_refl _) _)) info_meth rfl (mArr_one zeroMR nilM) ?_)
     intro W2 hbk hgr
     obtain ⟨d0, d1, d2, d3, d4, d5, d6, d7⟩ := mblk_cells hbk
     have HB9 := Hd (below_grown (HB4.out.alloc hs4 _) hgr (Nat.le_refl _) (by first | omega | (simp; done) | (simp; omega)))
     clear hbk hgr
     go_wp2_with fail
     exact bodyPost_ret (v := .tuple #[.string ⟨#[]⟩, methV zeroMR nilM, errV 3]) (by simp [results, Tryz.results207, go_sem, d0, d1, d2, d3, d4, d5, d6, d7, methV]) rfl ⟨HB9.out, Or.inl ⟨by rw [HE.out]; omega, by rw [HE.out]⟩⟩
   · have HE := Hd (found_some (fr := fr) (st := st) HS.out hm)
     have HM := Hd hm
     have HB4 := Hd (HB1.out.trans (hb4.mono HB1.out.size))
     have HZ4 := Hd (HZ1.out.below hb4)
     have hs4 := HB4.out.size
     have HB5 := Hd (HB4.out.alloc hs4 (.cells #[.string ⟨⟨m.nm⟩⟩, .string ⟨⟨m.ty⟩⟩, .bool m.stat, .bool m.abst, .bool m.priv, .int .i64 m.loc, .slice q.ca m.code.length q.cc, .slice q.ha m.hs.length q.hc] 45))
     have HZ5 := Hd (HZ4.out.below ((Below.refl _ w4).alloc (Nat.le_refl _) (.cells #[.string ⟨⟨m.nm⟩⟩, .string ⟨⟨m.ty⟩⟩, .bool m.stat, .bool m.abst, .bool m.priv, .int .i64 m.loc, .slice q.ca m.code.length q.cc, .slice q.ha m.hs.length q.hc] 45)))
     have hlk5 := cur_look2 (n := fr) (HW.out.below HB5.out).at_ (Nat.le_trans hfr hml)
     have HMB := Hd (blk_new w4 w4.heap.size 45 (mArr m q) rfl)
     rw [HCL.out] at hlk5
     unfold classV at hlk5
     clear hb4 hm hq hlk
     unfold methV
     cases hf : (look (wl l) fr).isSome with
     | false =>
       have HE2 := Hd (show foundErr (wl l) fr c n k st = 3 by rw [HE.out, if_pos (by simpa using hf)])
       rw [hf] at hlk5
       clear hf
       go_wp2_with (refine wpList_store_blk (x := .tmp 13) (y := .tmp 53) (ty := 45) (g := w.heap.size) (cells := mArr zeroMR nilM) (by rfl) (by rfl) (by rfl) (by rfl) (HZ5.out.below ((Below.refl _ _).alloc (Nat.le_refl _) _)) info_meth rfl (mArr_one zeroMR nilM) ?_)
       intro W2 hbk hgr
       obtain ⟨d0, d1, d2, d3, d4, d5, d6, d7⟩ := mblk_cells hbk
       have HB9 := Hd (below_grown (HB5.out.alloc (by simp; omega) _) hgr (Nat.le_refl _) (by first | omega | (simp; done) | (simp; omega)))
       clear hbk hgr
       go_wp2_with fail
       exact bodyPost_ret (v := .tuple #[.string ⟨#[]⟩, methV zeroMR nilM, errV 3]) (by simp [results, Tryz.results207, go_sem, d0, d1, d2, d3, d4, d5, d6, d7, methV]) rfl ⟨HB9.out, Or.inl ⟨by rw [HE2.out]; omega, by rw [HE2.out]⟩⟩
     | true =>
       rw [hf] at hlk5
       have HNF := Hd (show ¬ look (wl l) fr = none by intro q; rw [q] at hf; cases hf)
       have HB6 := Hd (HB5.out.alloc (by simp; omega) (.cells #[.string ⟨⟨(curP L fr).1.nm⟩⟩, .string ⟨⟨(curP L fr).1.sup⟩⟩, .slice (curP L fr).2.fa (curP L fr).1.faces.length (curP L fr).2.fc, .bool (curP L fr).1.face, .slice (curP L fr).2.ga (curP L fr).1.fields.length (curP L fr).2.gc, .slice (curP L fr).2.ma (curP L fr).1.meths.length (curP L fr).2.mc] 50))
       have HZ6 := Hd (HZ5.out.below ((Below.refl _ (w4.alloc (.cells #[.string ⟨⟨m.nm⟩⟩, .string ⟨⟨m.ty⟩⟩, .bool m.stat, .bool m.abst, .bool m.priv, .int .i64 m.loc, .slice q.ca m.code.length q.cc, .slice q.ha m.hs.length q.hc] 45))).alloc (Nat.le_refl _) (.cells #[.string ⟨⟨(curP L fr).1.nm⟩⟩, .string ⟨⟨(curP L fr).1.sup⟩⟩, .slice (curP L fr).2.fa (curP L fr).1.faces.length (curP L fr).2.fc, .bool (curP L fr).1.face, .slice (curP L fr).2.ga (curP L fr).1.fields.length (curP L fr).2.gc, .slice (curP L fr).2.ma (curP L fr).1.meths.length (curP L fr).2.mc] 50)))
       have HMB6 := Hd (Blk.below (show Blk (w4.alloc (.cells #[.string ⟨⟨m.nm⟩⟩, .string ⟨⟨m.ty⟩⟩, .bool m.stat, .bool m.abst, .bool m.priv, .int .i64 m.loc, .slice q.ca m.code.length q.cc, .slice q.ha m.hs.length q.hc] 45)) w4.heap.size 45 (mArr m q) from HMB.out) ((Below.refl _ (w4.alloc (.cells #[.string ⟨⟨m.nm⟩⟩, .string ⟨⟨m.ty⟩⟩, .bool m.stat, .bool m.abst, .bool m.priv, .int .i64 m.loc, .slice q.ca m.code.length q.cc, .slice q.ha m.hs.length q.hc] 45))).alloc (Nat.le_refl _) (.cells #[.string ⟨⟨(curP L fr).1.nm⟩⟩, .string ⟨⟨(curP L fr).1.sup⟩⟩, .slice (curP L fr).2.fa (curP L fr).1.faces.length (curP L fr).2.fc, .bool (curP L fr).1.face, .slice (curP L fr).2.ga (curP L fr).1.fields.length (curP L fr).2.gc, .slice (curP L fr).2.ma (curP L fr).1.meths.length (curP L fr).2.mc] 50)))
       clear hf
       cases hst : m.stat == st with
       | false =>
         have HE2 := Hd (show foundErr (wl l) fr c n k st = 7 by rw [HE.out, if_neg HNF.out, if_pos (by simpa using hst)])
         have hst2 : (m.stat != st) = true := by simp [bne, hst]
         go_wp2_with (refine wpList_store_blk (x := .tmp 13) (y := .tmp 59) (ty := 45) (g := w.heap.size) (cells := mArr zeroMR nilM) (by rfl) (by rfl) (by rfl) (by rfl) HZ6.out info_meth rfl (mArr_one zeroMR nilM) ?_)
         intro W2 hbk hgr
         obtain ⟨d0, d1, d2, d3, d4, d5, d6, d7⟩ := mblk_cells hbk
         have HB9 := Hd (below_grown HB6.out hgr (Nat.le_refl _) (by first | omega | (simp; done) | (simp; omega)))
         clear hbk hgr
         go_wp2_with fail
         exact bodyPost_ret (v := .tuple #[.string ⟨#[]⟩, methV zeroMR nilM, errV 7]) (by simp [results, Tryz.results207, go_sem, d0, d1, d2, d3, d4, d5, d6, d7, methV]) rfl ⟨HB9.out, Or.inl ⟨by rw [HE2.out]; omega, by rw [HE2.out]⟩⟩
       | true =>
         have est := eq_of_beq hst
         clear hst
         subst est
         obtain ⟨mn, mt, ms, mab, mp, mlo, mco, mhs⟩ := m
         dsimp only at *
         cases mp with
         | false =>
           have HE2 := Hd (show foundErr (wl l) fr c n k ms = 0 by rw [HE.out, if_neg HNF.out, if_neg (by simp), if_neg (by simp)])
           go_wp2_with fail
           refine wp_tail 3 (by kernel_rfl) (by kernel_rfl) ?_
           simp only [List.take_succ_cons, List.take_zero, List.drop_succ_cons, List.drop_zero]
           repeat still_step
           refine wpStill_nil ?_
           go_wp2_with (refine wpList_store_blk (x := .tmp 13) (y := .tmp 71) (ty := 45) (g := w.heap.size) (cells := mArr ⟨mn, mt, ms, mab, false, mlo, mco, mhs⟩ q) (by rfl) (by rfl) (by rfl) (by rfl) HZ6.out.drew info_meth rfl (mArr_one ⟨mn, mt, ms, mab, false, mlo, mco, mhs⟩ q) ?_)
           intro W2 hbk hgr
           obtain ⟨d0, d1, d2, d3, d4, d5, d6, d7⟩ := mblk_cells hbk
           have HB9 := Hd (below_grown HB6.out.drew hgr (Nat.le_refl _) (by first | omega | (simp; done) | (simp; omega)))
           clear hbk hgr
           go_wp2_with fail
           exact bodyPost_ret (v := .tuple #[.string ⟨⟨x⟩⟩, methV ⟨mn, mt, ms, mab, false, mlo, mco, mhs⟩ q, .nilIface]) (by simp [results, Tryz.results207, go_sem, d0, d1, d2, d3, d4, d5, d6, d7, methV]) rfl ⟨HB9.out, Or.inr ⟨HE2.out, x, ⟨mn, mt, ms, mab, false, mlo, mco, mhs⟩, q, HM.out, rfl⟩⟩
         | true =>
           cases hx : x == fr with
           | false =>
             have HE2 := Hd (show foundErr (wl l) fr c n k ms = 9 by rw [HE.out, if_neg HNF.out, if_neg (by simp), if_pos ⟨rfl, by simpa using hx⟩])
             have hx2 : (x != fr) = true := by simp [bne, hx]
             go_wp2_with (refine wpList_store_blk (x := .tmp 13) (y := .tmp 68) (ty := 45) (g := w.heap.size) (cells := mArr zeroMR nilM) (by rfl) (by rfl) (by rfl) (by rfl) HZ6.out info_meth rfl (mArr_one zeroMR nilM) ?_)
             intro W2 hbk hgr
             obtain ⟨d0, d1, d2, d3, d4, d5, d6, d7⟩ := mblk_cells hbk
             have HB9 := Hd (below_grown HB6.out hgr (Nat.le_refl _) (by first | omega | (simp; done) | (simp; omega)))
             clear hbk hgr
             go_wp2_with fail
             exact bodyPost_ret (v := .tuple #[.string ⟨#[]⟩, methV zeroMR nilM, errV 9]) (by simp [results, Tryz.results207, go_sem, d0, d1, d2, d3, d4, d5, d6, d7, methV]) rfl ⟨HB9.out, Or.inl ⟨by rw [HE2.out]; omega, by rw [HE2.out]⟩⟩
           | true =>
             have HE2 := Hd (show foundErr (wl l) fr c n k ms = 0 by rw [HE.out, if_neg HNF.out, if_neg (by simp), if_neg (by intro q; exact q.2 (eq_of_beq hx))])
             have hx2 : (x != fr) = false := by simp [bne, hx]
             go_wp2_with fail
             refine wp_tail 3 (by kernel_rfl) (by kernel_rfl) ?_
             simp only [List.take_succ_cons, List.take_zero, List.drop_succ_cons, List.drop_zero]
             repeat still_step
             refine wpStill_nil ?_
             go_wp2_with (refine wpList_store_blk (x := .tmp 13) (y := .tmp 71) (ty := 45) (g := w.heap.size) (cells := mArr ⟨mn, mt, ms, mab, true, mlo, mco, mhs⟩ q) (by rfl) (by rfl) (by rfl) (by rfl) HZ6.out.drew info_meth rfl (mArr_one ⟨mn, mt, ms, mab, true, mlo, mco, mhs⟩ q) ?_)
             intro W2 hbk hgr
             obtain ⟨d0, d1, d2, d3, d4, d5, d6, d7⟩ := mblk_cells hbk
             have HB9 := Hd (below_grown HB6.out.drew hgr (Nat.le_refl _) (by first | omega | (simp; done) | (simp; omega)))
             clear hbk hgr
             go_wp2_with fail
             exact bodyPost_ret (v := .tuple #[.string ⟨⟨x⟩⟩, methV ⟨mn, mt, ms, mab, true, mlo, mco, mhs⟩ q, .nilIface]) (by simp [results, Tryz.results207, go_sem, d0, d1, d2, d3, d4, d5, d6, d7, methV]) rfl ⟨HB9.out, Or.inr ⟨HE2.out, x, ⟨mn, mt, ms, mab, true, mlo, mco, mhs⟩, q, HM.out, rfl⟩⟩
open Go.Sort
noncomputable def callG (L : List ClassR) (cl : Nm) (st : Bool) (A : List Nm) (g : Nm) (f : FrR) : Option FrR :=
 (takeF L A.reverse f).elim none fun f1 => (if st = true then some f1 else takeF L [thing cl] f1).elim none fun f2 => if g = [86] then some f2 else if kindErr L g ≠ 0 then none else putF f2 g
open Classical in
noncomputable def callF (L : List ClassR) (fr : Nm) (x : InsR) (st : Bool) (f : FrR) : Option FrR :=
 if foundErr L fr x.cl x.nm x.ty st ≠ 0 then none else if h : ∃ p : List Nm × Nm, MethodOk x.ty p.1 p.2 then callG L x.cl st h.choose.1 h.choose.2 f else none
theorem callF_bad {L : List ClassR} {fr : Nm} {x : InsR} {st : Bool} {f : FrR} (h : foundErr L fr x.cl x.nm x.ty st ≠ 0) : callF L fr x st f = none := by unfold callF; rw [if_pos h]
theorem callF_of {L : List ClassR} {fr : Nm} {x : InsR} {st : Bool} {f : FrR} {A : List Nm} {g : Nm} (h : foundErr L fr x.cl x.nm x.ty st = 0) (hm : MethodOk x.ty A g) : callF L fr x st f = callG L x.cl st A g f := by
 have hex : ∃ p : List Nm × Nm, MethodOk x.ty p.1 p.2 := ⟨(A, g), hm⟩
 unfold callF
 rw [if_neg (by simpa using h), dif_pos hex]
 obtain ⟨h1, h2⟩ := method_uniq hex.choose_spec hm
 rw [h1, h2]
theorem rev_nil (w : World) : Calls Tryz.prog 208 #[.slice none 0 0] w fun e w' => e = .returned (.tuple #[]) ∧ w' = w := by
 go_enter Tryz.func208, Tryz.ntmps208
 go_wp2_with fail
 refine wp_loop_rounds 1 ?_
 rw [rounds_succ]
 go_wp2_with fail
 go_end0
 exact ⟨rfl, rfl⟩
theorem rev_any (A : List Nm) (a : Option Addr) (cap c : Nat) (w5 w6 : World) (hb : Below w5.heap.size w5 w6) (h : w6.ownsRow w5.heap.size 9 1 (.slice a A.length cap) A.length (A.map strV)) (hl : A.length ≤ 100) (hc : c < w5.heap.size) :
   Calls Tryz.prog 208 #[.slice a A.length cap] w6 fun e w' => e = .returned (.tuple #[]) ∧ Below w5.heap.size w5 w' ∧ SRow w' a cap A.reverse ∧ ∀ ad, a = some ad → ad.block ≠ c := by
 rcases h.2 with ⟨hv, h0⟩ | ⟨g, cap', cur, hv, hB, _, _⟩
 · simp only [Value.slice.injEq] at hv
   obtain ⟨rfl, h1, rfl⟩ := hv
   obtain rfl : A = [] := List.eq_nil_of_length_eq_zero h1
   refine (rev_nil w6).mono ?_
   rintro e w' ⟨he, rfl⟩
   exact ⟨he, hb, ⟨Nat.le_refl _, Or.inl rfl⟩, fun ad h => by cases h⟩
 · simp only [Value.slice.injEq] at hv
   obtain ⟨rfl, _, rfl⟩ := hv
   refine (rev_own A w5.heap.size g cap w5 w6 hb hB h (by omega)).mono ?_
   rintro e w' ⟨he, hb', ho, _⟩
   have ho' : w'.ownsRow w5.heap.size 9 1 (.slice (some ⟨g, 0, none⟩) A.length cap) A.reverse.length (A.reverse.map strV) := by rw [List.length_reverse]; exact ho
   obtain ⟨a2, c2, e2, hs⟩ := srow_of_own ho'
   simp only [Value.slice.injEq] at e2
   obtain ⟨rfl, _, rfl⟩ := e2
   exact ⟨he, hb', hs, fun ad h => by simp only [Option.some.injEq] at h; subst h; show g ≠ c; omega⟩
theorem store_new (w1 w4 : World) (hb : Below w1.heap.size w1 w4) (m : MethR) (q : MAddr) : ∃ w5, (storeCells ⟨w4.heap.size, 0, none⟩ (mArr m q).toList).run Tryz.prog (w4.alloc (.cells #[.string ⟨#[]⟩, .string ⟨#[]⟩, .bool false, .bool false, .bool false, .int .i64 0, .slice none 0 0, .slice none 0 0] 45)) = .ok () w5 ∧ Below w1.heap.size w1 w5 :=
 ⟨_, run_storeCells_new (P := Tryz.prog) w4 45 _ (mArr m q) info_meth rfl (mArr_one m q), bl_alloc hb _⟩
theorem store_old (w1 w4 : World) (hb : Below w1.heap.size w1 w4) (m : MethR) (q : MAddr) (hk : Blk w4 w1.heap.size 45 #[.string ⟨#[]⟩, .string ⟨#[]⟩, .bool false, .bool false, .bool false, .int .i64 0, .slice none 0 0, .slice none 0 0]) : ∃ w5, (storeCells ⟨w1.heap.size, 0, none⟩ (mArr m q).toList).run Tryz.prog w4 = .ok () w5 ∧ Below w1.heap.size w1 w5 :=
 ⟨_, run_storeCells_from (P := Tryz.prog) w1.heap.size 45 (mArr m q).toList 0 _ w4 hk rfl (fun v hv => (Array.all_eq_true_iff_forall_mem.1 (mArr_one m q)) v (by simpa using hv)), gb_to_below hb (setRow_grown _ _ _) (Nat.le_refl _)⟩
theorem call_calls_stp (l : List ClassR) (L : List CP) (b c : Nat) (fr gv : Nm) (f : FrR) (x : InsR) (st : Bool) (w0 w : World) (hW : WOk w0 b l L) (hb : Below w0.heap.size w0 w) (hs : Stp (wl l) w w0.heap.size c b fr gv f) (hcl : x.cl.length ≤ 20) (hfr : fr.length ≤ 1048576) (hty : x.ty.length ≤ 1048576) (hmo : ∃ A g, MethodOk x.ty A g) :
   Calls Tryz.prog 164 #[.pointer (some ⟨c, 0, none⟩), insV x, .bool st] w (StRes (wl l) (callF (wl l) fr x st f) w0.heap.size c b fr gv w0) := by
 obtain ⟨op, ia, ib, ty, cl, nm⟩ := x
 obtain ⟨w1, hw1⟩ : ∃ w1, w1 = w.alloc (.cells (insArr ⟨op, ia, ib, ty, cl, nm⟩) 40) := ⟨_, rfl⟩
 have hal : Below w.heap.size w w1 := by rw [hw1]; exact bl_alloc (Below.refl _ _) _
 have HX := Hd (show Blk w1 w.heap.size 40 #[.int .i64 op, .int .i64 ia, .int .i64 ib, .string ⟨⟨ty⟩⟩, .string ⟨⟨cl⟩⟩, .string ⟨⟨nm⟩⟩] by rw [hw1]; exact blk_new _ _ _ _ rfl)
 have HG1 := Hd (gb_below (gb_refl w c) hal)
 have HB1 := Hd (hb.trans (hal.mono hb.size))
 have HS1 := Hd (hs.below hal)
 have HW := Hd hW
 have HB := Hd hb
 have HCB := Hd hs.cB
 dsimp only at hcl hty hmo ⊢
 have HMO := Hd hmo
 have HKF := Hd hs.kok
 have hwc : w.heap.size ≠ c := by have := hs.lt; omega
 have HME := Hd (fun w => method_calls ty (by omega) w)
 have HTH := Hd (fun w => thing_calls cl (by omega) w)
 have htl : (thing cl).length ≤ 8388608 := by simp [thing]; omega
 have HFO := Hd (fun W (hw : Below w0.heap.size w0 W) => found_calls l L b fr cl nm ty st W (hW.below hw) hfr (by omega))
 have HSC := Hd (fun W (hw : Below w1.heap.size w1 W) => (show W.cell? ⟨c, 0, none⟩ = some (.map (some b)) ∧ W.cell? ⟨c, 1, none⟩ = some (.string ⟨⟨fr⟩⟩) ∧ W.cell? ⟨w.heap.size, 4, none⟩ = some (.string ⟨⟨cl⟩⟩) ∧ W.cell? ⟨w.heap.size, 5, none⟩ = some (.string ⟨⟨nm⟩⟩) ∧ W.cell? ⟨w.heap.size, 3, none⟩ = some (.string ⟨⟨ty⟩⟩) from by
   obtain ⟨_, _, _, _, h⟩ := HS1.out.below hw
   exact ⟨h.blk.cell 0, h.blk.cell 1, (HX.out.below hw).cell 4, (HX.out.below hw).cell 5, (HX.out.below hw).cell 3⟩))
 unfold insArr at hw1
 unfold insV
 clear hW hb hs hal hmo
 by_cases hz : foundErr (wl l) fr cl nm ty st = 0
 · have HAL := Hd (show Below w1.heap.size w1 (w1.alloc (.cells #[.string ⟨#[]⟩, .string ⟨#[]⟩, .bool false, .bool false, .bool false, .int .i64 0, .slice none 0 0, .slice none 0 0] 45)).drew from (bl_alloc (Below.refl _ _) _).drew)
   have HZ1 := Hd (show Blk (w1.alloc (.cells #[.string ⟨#[]⟩, .string ⟨#[]⟩, .bool false, .bool false, .bool false, .int .i64 0, .slice none 0 0, .slice none 0 0] 45)).drew w1.heap.size 45 #[.string ⟨#[]⟩, .string ⟨#[]⟩, .bool false, .bool false, .bool false, .int .i64 0, .slice none 0 0, .slice none 0 0] from blk_new _ _ _ _ rfl)
   have HFS := Hd (show ∀ W, Below w0.heap.size w0 W → Calls Tryz.prog 207 #[.map (some b), .string ⟨⟨fr⟩⟩, .string ⟨⟨cl⟩⟩, .string ⟨⟨nm⟩⟩, .string ⟨⟨ty⟩⟩, .bool st] W fun e w' => (∃ y m q, e = .returned (.tuple #[.string ⟨⟨y⟩⟩, .agg (mArr m q), .nilIface])) ∧ Below W.heap.size W w' from fun W hw => (HFO.out W hw).mono (fun e w' ⟨hb, h⟩ => by
     rcases h with ⟨h, _⟩ | ⟨_, y, m, q, _, he⟩
     · exact absurd hz h
     · exact ⟨⟨y, m, q, he⟩, hb⟩))
   have HZ0 := Hd hz
   clear hz
   go_enter Tryz.func164, Tryz.ntmps164
   go_upto_region 1 with fail
   rw [← hw1]
   clear hw1
   go_region_held3 (fun W' => W'.cell? ⟨c, 0, none⟩ = some (.map (some b)) ∧ W'.cell? ⟨c, 1, none⟩ = some (.string ⟨⟨fr⟩⟩) ∧ W'.cell? ⟨w.heap.size, 4, none⟩ = some (.string ⟨⟨cl⟩⟩) ∧ W'.cell? ⟨w.heap.size, 5, none⟩ = some (.string ⟨⟨nm⟩⟩) ∧ W'.cell? ⟨w.heap.size, 3, none⟩ = some (.string ⟨⟨ty⟩⟩))
     (first | exact HSC.out _ (Below.refl _ _) | exact HSC.out _ (Below.refl _ _).drew | exact HSC.out _ HAL.out | exact HSC.out _ (bl_alloc (Below.refl _ _) _) | exact HSC.out _ hb5 | exact HSC.out _ hb34 | exact HSC.out _ (bl_alloc hb34 _))
     ((first
     | (go_at_call 207
        with_reducible refine (HFS.out w1.drew (HB1.out.trans ((Below.refl _ _).drew.mono HB1.out.size))).mono ?_
        rintro e w4 ⟨⟨y, m, q, rfl⟩, hb4⟩
        have hb34 := bl_trans (Below.refl w1.heap.size w1).drew hb4
        obtain ⟨w5, hst5, hb5⟩ := store_new w1 w4 hb34 m q)
     | (go_at_call 207
        with_reducible refine (HFS.out (w1.alloc (.cells #[.string ⟨#[]⟩, .string ⟨#[]⟩, .bool false, .bool false, .bool false, .int .i64 0, .slice none 0 0, .slice none 0 0] 45)).drew (HB1.out.trans (HAL.out.mono HB1.out.size))).mono ?_
        rintro e w4 ⟨⟨y, m, q, rfl⟩, hb4⟩
        have hb34 := bl_trans HAL.out hb4
        obtain ⟨w5, hst5, hb5⟩ := store_old w1 w4 hb34 m q (HZ1.out.below hb4))))
   all_goals
     have HB5 := Hd hb5
     have HS5 := Hd (HS1.out.below hb5)
     have HX5 := Hd (HX.out.below hb5)
     have HG5 := Hd (gb_below HG1.out hb5)
     have x3 := HX5.out.cell 3
     have x4 := HX5.out.lt
     clear hst5 hb4 hb34 hb5 HSC HAL HFS HZ1 HFO
     go_wp2_with fail
     refine (need_true _).mono ?_
     rintro e w5' ⟨rfl, rfl⟩
     go_wp2_with fail
     refine (HME.out _).mono ?_
     rintro e w6 ⟨hb6, ⟨_, hno⟩ | ⟨v, A, g, rfl, hm, ho⟩⟩
     · obtain ⟨A0, g0, h0⟩ := HMO.out
       exact absurd h0 (hno A0 g0)
     obtain ⟨a6, c6, rfl, _⟩ := slice_of_own ho
     have hA5 : A.length ≤ 5 := hm.2.2.1
     have HRV := Hd (rev_any A a6 c6 c _ w6 hb6 ho (by omega) HS5.out.lt)
     have HM := Hd hm
     clear hb6 ho hm x3 x4
     go_wp2_with fail
     refine (need_true _).mono ?_
     rintro e w6' ⟨rfl, rfl⟩
     go_wp2_with fail
     refine HRV.out.mono ?_
     rintro e w7 ⟨rfl, hb7, hr7, hne7⟩
     have HS7 := Hd (HS5.out.below hb7)
     have HX7 := Hd (HX5.out.below hb7)
     have HG7 := Hd (gb_below HG5.out hb7)
     have HB7 := Hd (gb_to_below HB.out HG7.out HCB.out)
     have HTK := Hd (show Calls Tryz.prog 158 #[.pointer (some ⟨c, 0, none⟩), .slice a6 A.length c6] w7 (TakeRes (wl l) (takeF (wl l) A.reverse f) w0.heap.size c b fr gv w7) from by
       have h := take_calls l L b c w0.heap.size fr gv f A.reverse a6 c6 w0 w7 HW.out rfl HB7.out HS7.out hr7 hne7 (by simp; omega) (fun t ht => by have := type_len25 (HM.out.2.1 t (by simpa using ht)); omega)
       rw [List.length_reverse] at h
       exact h)
     have HCF := Hd (callF_of (x := ⟨op, ia, ib, ty, cl, nm⟩) (f := f) HZ0.out HM.out)
     clear hb7 hr7 hne7 HRV
     go_wp2_with fail
     refine HTK.out.mono ?_
     rintro e w8 ⟨hg8, ⟨hn, rfl⟩ | ⟨f1, hn, rfl, hs8⟩⟩
     · have HG8 := Hd (gb_trans HG7.out hg8)
       have HN := Hd hn
       clear hg8 hn
       go_wp2_with fail
       exact ⟨rfl, gb_to_below HB.out HG8.out HCB.out, Or.inl ⟨by rw [HCF.out]; unfold callG; rw [HN.out]; rfl, rfl⟩⟩
     · have HG8 := Hd (gb_trans HG7.out hg8)
       have HN := Hd hn
       have HS8 := Hd hs8
       have HX8 := Hd (gb_blk hg8 HX7.out hwc)
       have HB8 := Hd (gb_to_below HB.out HG8.out HCB.out)
       have HK8 := Hd (HKF.out.take hn).1
       clear hg8 hn hs8
       cases st with
       | true =>
         have HEQ := Hd (show callG (wl l) cl true A g f = if g = [86] then some f1 else if kindErr (wl l) g ≠ 0 then none else putF f1 g by unfold callG; rw [HN.out]; rfl)
         by_cases hg86 : g = [86]
         · have HE := Hd (show callF (wl l) fr ⟨op, ia, ib, ty, cl, nm⟩ true f = some f1 by rw [HCF.out, HEQ.out, if_pos hg86])
           subst hg86
           clear HCF HEQ
           go_wp2_with fail
           go_end0
           exact ⟨HB8.out, Or.inr ⟨_, HE.out, rfl, HS8.out⟩⟩
         · have q86 : (g == [86]) = false := by rw [beq_eq_false_iff_ne]; exact hg86
           have hgl : g.length ≤ 8388608 := by
             rcases HM.out.2.2.2 with h | h
             · exact absurd h hg86
             · have := type_len25 h; omega
           have HKN := Hd (known_calls l L b c w0.heap.size fr gv f1 g w0 w8 HW.out rfl HB8.out HS8.out hgl)
           by_cases hgk : kindErr (wl l) g = 0
           · rw [if_pos hgk] at HKN
             have HE := Hd (show callF (wl l) fr ⟨op, ia, ib, ty, cl, nm⟩ true f = putF f1 g by rw [HCF.out, HEQ.out, if_neg hg86, if_neg (by simpa using hgk)])
             have HGK := Hd hgk
             clear hg86 hgk HCF HEQ
             go_wp2_with fail
             refine HKN.out.mono ?_
             rintro e w11 ⟨rfl, hb11⟩
             have HB11 := Hd (gb_to_below HB.out (gb_below HG8.out hb11) HCB.out)
             have HS11 := Hd (HS8.out.below hb11)
             clear hb11
             go_wp2_with fail
             refine (put_calls (wl l) b c w0.heap.size fr gv f1 g w0 w11 HB11.out HB11.out.size HS11.out HGK.out).mono ?_
             rintro e w12 ⟨hb12, ⟨hn12, rfl⟩ | ⟨f3, hn12, rfl, hs12⟩⟩
             · have HB12 := Hd hb12
               have HN12 := Hd hn12
               clear hb12 hn12
               go_wp2_with fail
               exact ⟨rfl, HB12.out, Or.inl ⟨by rw [HE.out, HN12.out], rfl⟩⟩
             · have HB12 := Hd hb12
               have HN12 := Hd hn12
               have HS12 := Hd hs12
               clear hb12 hn12 hs12
               go_wp2_with fail
               go_end0
               exact ⟨HB12.out, Or.inr ⟨f3, by rw [HE.out, HN12.out], rfl, HS12.out⟩⟩
           · rw [if_neg hgk] at HKN
             have HE := Hd (show callF (wl l) fr ⟨op, ia, ib, ty, cl, nm⟩ true f = none by rw [HCF.out, HEQ.out, if_neg hg86, if_pos hgk])
             clear hg86 hgk HCF HEQ
             go_wp2_with fail
             refine HKN.out.mono ?_
             rintro e w11 ⟨rfl, hb11⟩
             have HB11 := Hd (gb_to_below HB.out (gb_below HG8.out hb11) HCB.out)
             clear hb11
             go_wp2_with fail
             exact ⟨rfl, HB11.out, Or.inl ⟨HE.out, rfl⟩⟩
       | false =>
         have x4 := HX8.out.cell 4
         have x5 := HX8.out.lt
         go_wp2_with fail
         refine (HTH.out _).mono ?_
         rintro e w9 ⟨rfl, rfl⟩
         go_wp2_with fail
         refine (take1 l L b c fr gv f1 (thing cl) w0 _ HW.out HB8.out HS8.out htl).mono ?_
         rintro e w9 ⟨hg9, ⟨hn9, rfl⟩ | ⟨f2, hn9, rfl, hs9⟩⟩
         · have HG9 := Hd (gb_trans HG8.out hg9)
           have HN9 := Hd hn9
           clear hg9 hn9 x4 x5
           go_wp2_with fail
           exact ⟨rfl, gb_to_below HB.out HG9.out HCB.out, Or.inl ⟨by rw [HCF.out]; unfold callG; rw [HN.out]; simp only [Option.elim_some]; rw [if_neg (by simp), HN9.out]; rfl, rfl⟩⟩
         · have HG9 := Hd (gb_trans HG8.out hg9)
           have HS9 := Hd hs9
           have HB9 := Hd (gb_to_below HB.out HG9.out HCB.out)
           have HEQ := Hd (show callG (wl l) cl false A g f = if g = [86] then some f2 else if kindErr (wl l) g ≠ 0 then none else putF f2 g by unfold callG; rw [HN.out]; simp only [Option.elim_some]; rw [if_neg (by simp), hn9]; rfl)
           clear hg9 hn9 hs9 x4 x5
           by_cases hg86 : g = [86]
           · have HE := Hd (show callF (wl l) fr ⟨op, ia, ib, ty, cl, nm⟩ false f = some f2 by rw [HCF.out, HEQ.out, if_pos hg86])
             subst hg86
             clear HCF HEQ
             go_wp2_with fail
             go_end0
             exact ⟨HB9.out, Or.inr ⟨_, HE.out, rfl, HS9.out⟩⟩
           · have q86 : (g == [86]) = false := by rw [beq_eq_false_iff_ne]; exact hg86
             have hgl : g.length ≤ 8388608 := by
               rcases HM.out.2.2.2 with h | h
               · exact absurd h hg86
               · have := type_len25 h; omega
             have HKN := Hd (known_calls l L b c w0.heap.size fr gv f2 g w0 w9 HW.out rfl HB9.out HS9.out hgl)
             by_cases hgk : kindErr (wl l) g = 0
             · rw [if_pos hgk] at HKN
               have HE := Hd (show callF (wl l) fr ⟨op, ia, ib, ty, cl, nm⟩ false f = putF f2 g by rw [HCF.out, HEQ.out, if_neg hg86, if_neg (by simpa using hgk)])
               have HGK := Hd hgk
               clear hg86 hgk HCF HEQ
               go_wp2_with fail
               refine HKN.out.mono ?_
               rintro e w11 ⟨rfl, hb11⟩
               have HB11 := Hd (gb_to_below HB.out (gb_below HG9.out hb11) HCB.out)
               have HS11 := Hd (HS9.out.below hb11)
               clear hb11
               go_wp2_with fail
               refine (put_calls (wl l) b c w0.heap.size fr gv f2 g w0 w11 HB11.out HB11.out.size HS11.out HGK.out).mono ?_
               rintro e w12 ⟨hb12, ⟨hn12, rfl⟩ | ⟨f3, hn12, rfl, hs12⟩⟩
               · have HB12 := Hd hb12
                 have HN12 := Hd hn12
                 clear hb12 hn12
                 go_wp2_with fail
                 exact ⟨rfl, HB12.out, Or.inl ⟨by rw [HE.out, HN12.out], rfl⟩⟩
               · have HB12 := Hd hb12
                 have HN12 := Hd hn12
                 have HS12 := Hd hs12
                 clear hb12 hn12 hs12
                 go_wp2_with fail
                 go_end0
                 exact ⟨HB12.out, Or.inr ⟨f3, by rw [HE.out, HN12.out], rfl, HS12.out⟩⟩
             · rw [if_neg hgk] at HKN
               have HE := Hd (show callF (wl l) fr ⟨op, ia, ib, ty, cl, nm⟩ false f = none by rw [HCF.out, HEQ.out, if_neg hg86, if_pos hgk])
               clear hg86 hgk HCF HEQ
               go_wp2_with fail
               refine HKN.out.mono ?_
               rintro e w11 ⟨rfl, hb11⟩
               have HB11 := Hd (gb_to_below HB.out (gb_below HG9.out hb11) HCB.out)
               clear hb11
               go_wp2_with fail
               exact ⟨rfl, HB11.out, Or.inl ⟨HE.out, rfl⟩⟩
 · have HAL := Hd (show Below w1.heap.size w1 (w1.alloc (.cells #[.string ⟨#[]⟩, .string ⟨#[]⟩, .bool false, .bool false, .bool false, .int .i64 0, .slice none 0 0, .slice none 0 0] 45)).drew from (bl_alloc (Below.refl _ _) _).drew)
   have HZ1 := Hd (show Blk (w1.alloc (.cells #[.string ⟨#[]⟩, .string ⟨#[]⟩, .bool false, .bool false, .bool false, .int .i64 0, .slice none 0 0, .slice none 0 0] 45)).drew w1.heap.size 45 #[.string ⟨#[]⟩, .string ⟨#[]⟩, .bool false, .bool false, .bool false, .int .i64 0, .slice none 0 0, .slice none 0 0] from blk_new _ _ _ _ rfl)
   have HE := Hd (callF_bad (x := ⟨op, ia, ib, ty, cl, nm⟩) (f := f) hz)
   have HFS := Hd (show ∀ W, Below w0.heap.size w0 W → Calls Tryz.prog 207 #[.map (some b), .string ⟨⟨fr⟩⟩, .string ⟨⟨cl⟩⟩, .string ⟨⟨nm⟩⟩, .string ⟨⟨ty⟩⟩, .bool st] W fun e w' => (∃ y m q z, e = .returned (.tuple #[.string ⟨⟨y⟩⟩, .agg (mArr m q), errV z])) ∧ Below W.heap.size W w' from fun W hw => (HFO.out W hw).mono (fun e w' ⟨hb, h⟩ => by
     rcases h with ⟨_, he⟩ | ⟨h, _⟩
     · exact ⟨⟨[], zeroMR, nilM, _, he⟩, hb⟩
     · exact absurd h hz))
   clear hz
   go_enter Tryz.func164, Tryz.ntmps164
   go_upto_region 1 with fail
   rw [← hw1]
   clear hw1
   go_region_held3 (fun W' => W'.cell? ⟨c, 0, none⟩ = some (.map (some b)) ∧ W'.cell? ⟨c, 1, none⟩ = some (.string ⟨⟨fr⟩⟩) ∧ W'.cell? ⟨w.heap.size, 4, none⟩ = some (.string ⟨⟨cl⟩⟩) ∧ W'.cell? ⟨w.heap.size, 5, none⟩ = some (.string ⟨⟨nm⟩⟩) ∧ W'.cell? ⟨w.heap.size, 3, none⟩ = some (.string ⟨⟨ty⟩⟩))
     (first | exact HSC.out _ (Below.refl _ _) | exact HSC.out _ (Below.refl _ _).drew | exact HSC.out _ HAL.out | exact HSC.out _ (bl_alloc (Below.refl _ _) _) | exact HSC.out _ hb5 | exact HSC.out _ hb34 | exact HSC.out _ (bl_alloc hb34 _))
     ((first
     | (go_at_call 207
        with_reducible refine (HFS.out w1.drew (HB1.out.trans ((Below.refl _ _).drew.mono HB1.out.size))).mono ?_
        rintro e w4 ⟨⟨y, m, q, z, rfl⟩, hb4⟩
        have hb34 := bl_trans (Below.refl w1.heap.size w1).drew hb4
        obtain ⟨w5, hst5, hb5⟩ := store_new w1 w4 hb34 m q)
     | (go_at_call 207
        with_reducible refine (HFS.out (w1.alloc (.cells #[.string ⟨#[]⟩, .string ⟨#[]⟩, .bool false, .bool false, .bool false, .int .i64 0, .slice none 0 0, .slice none 0 0] 45)).drew (HB1.out.trans (HAL.out.mono HB1.out.size))).mono ?_
        rintro e w4 ⟨⟨y, m, q, z, rfl⟩, hb4⟩
        have hb34 := bl_trans HAL.out hb4
        obtain ⟨w5, hst5, hb5⟩ := store_old w1 w4 hb34 m q (HZ1.out.below hb4))))
   all_goals
     have HG5 := Hd (gb_below HG1.out hb5)
     clear hst5 hb4 hb34 hb5 HSC HAL HFS HZ1 HFO
     go_wp2_with fail
     refine (need_false _).mono ?_
     rintro e w6 ⟨rfl, rfl⟩
     go_wp2_with fail
     exact ⟨rfl, gb_to_below HB.out HG5.out HCB.out, Or.inl ⟨HE.out, rfl⟩⟩
end Go.Proofs.YtddbnboicmaooaaGreatDoor
