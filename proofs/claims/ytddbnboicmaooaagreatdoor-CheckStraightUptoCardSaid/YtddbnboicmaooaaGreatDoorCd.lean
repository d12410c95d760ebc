import Derived.Test.YtddbnboicmaooaaGreatDoorCc
import Derived.Test.YtddbnboicmaooaaGreatDoorCb
namespace Go.Proofs.YtddbnboicmaooaaGreatDoor
set_option maxRecDepth 100000
set_option maxHeartbeats 16000000
set_option linter.unusedVariables false
set_option linter.unusedSimpArgs false
open Go.RowKit Go.Shelf Go.Lib
theorem que_cut (g off n cap : Nat) (w : World) (hc : n + 1 ≤ cap) : (Instr.slice 22 (.slice (some ⟨g, off, none⟩) (n + 1) cap) (some (.int .i64 1)) none none).run Tryz.prog w = .ok (.slice (if cap = 1 then some ⟨g, off, none⟩ else some ⟨g, off + 1, none⟩) n (cap - 1)) w := by
 have h1 : Tryz.prog.underlying 22 = some (.slice 3) := Tryz.underlying22
 have hz : (sizeOf 3).run Tryz.prog w = .ok 1 w := Tryz.sizeOf3 w
 have hadd : (⟨g, off, none⟩ : Addr).add 1 = ⟨g, off + 1, none⟩ := by unfold Addr.add; split <;> simp_all
 have h2 : (1 : Int) ≤ (n : Int) + 1 := by omega
 simp [Instr.slice, Instr.sliceBounds, Instr.sliceBound, run_underlying h1, asIntOf, hz, hadd, h2, Result.andThen]
def FrC (W : World) : Option FrR → Option Value → Prop
 | none, y => y = none
 | some f, y => ∃ q, y = some (frV f q) ∧ FrAt W f q
def FrsAt (W : World) (MB : Nat) (fr : Int → Option FrR) : Prop := ∃ n F, IMap W MB n F ∧ ∀ z, FrC W (fr z) (F z)
theorem FrsAt.below {W W' : World} {MB : Nat} {fr : Int → Option FrR} (h : FrsAt W MB fr) (hb : Below W.heap.size W W') : FrsAt W' MB fr := by
 obtain ⟨n, F, h1, h2⟩ := h
 refine ⟨n, F, h1.below hb, fun z => ?_⟩
 have := h2 z
 cases hf : fr z with
 | none => rw [hf] at this; exact this
 | some f =>
   rw [hf] at this
   obtain ⟨q, h3, h4⟩ := this
   exact ⟨q, h3, h4.below hb⟩
theorem LkAt.frs {W : World} {B K MB b : Nat} {m : MethR} {p : MAddr} {s : LkSt} {v : Value} (h : LkAt W B K MB b m p s v) : FrsAt W MB s.fr := by
 obtain ⟨n, F, h1, h2⟩ := h.fr
 refine ⟨n, F, h1, fun z => ?_⟩
 have := h2 z
 cases hf : s.fr z with
 | none => rw [hf] at this; exact this
 | some f =>
   rw [hf] at this
   obtain ⟨q, h3, h4, _⟩ := this
   exact ⟨q, h3, h4⟩
def LdRes (L : List ClassR) (n : Nat) (r : Option (Int → Option FrR)) (w : World) (e : Ending) (w' : World) : Prop :=
 Below w.heap.size w w' ∧ ((r = none ∧ e = .returned (.tuple #[.map none, .bool false])) ∨ ∃ fr MB, r = some fr ∧ e = .returned (.tuple #[.map (some MB), .bool true]) ∧ FrsAt w' MB fr ∧ ∀ z f, fr z = some f → KOk L f ∧ 0 ≤ z ∧ z < (n : Int))
theorem kinds_ne {L : List ClassR} {l : List Nm} {k : Nat} {x : Nm} (h0 : ∀ y ∈ l.take k, kindErr L y = 0) (hx : l[k]? = some x) (hk : kindErr L x ≠ 0) : kindsErr L l ≠ 0 := by rw [kindsErr_at h0 hx hk]; exact hk
theorem LkAt.cut {W : World} {B K MB b : Nat} {m : MethR} {p : MAddr} {s : LkSt} {v v' : Value} {r : List Nat} (h : LkAt W B K MB b m p s v) (hq : QueAt W B 3 v' (r.map intV)) (hv : v'.ownBlock = v.ownBlock) : LkAt (W.setCell ⟨K, 10, none⟩ v') B K MB b m p ⟨s.fr, r⟩ v' := by
 obtain ⟨n, F, h1, h2⟩ := h.fr
 have hkb : KbR K MB v W (W.setCell ⟨K, 10, none⟩ v') := ⟨rfl, rfl, rfl, by simp [World.setCell], fun k hk n1 n2 n3 => Below.heap_setCell _ _ _ _ (by exact n1)⟩
 refine ⟨blk_set h.blk 10 v', ⟨n, F, h1.kept (Below.heap_setCell _ _ _ _ (by exact fun e => h.ne e.symm)), fun z => (h2 z).keep hkb (Or.inl hv)⟩, hq.kept (fun g hg => Below.heap_setCell _ _ _ _ (fun e => h.nvK (by rw [← hv, hg, e]))), h.bK, h.bM⟩
theorem first_lens {m : MethR} (hm : MOk m) {c : Nm} (hc : c.length ≤ 1048576) : ∀ x ∈ (firstF c m).loc, x.length ≤ 8388608 := by
 intro x hx
 simp only [firstF, givenL, List.mem_append] at hx
 rcases hx with (hx | hx) | hx
 · split at hx
   · simp at hx
   · rw [List.mem_singleton.1 hx]; simp [thing]; omega
 · have := type_len25 ((args_gives hm.ty).2.1 x hx); omega
 · rw [(List.mem_replicate.1 hx).2]; simp
theorem looked_calls (l : List ClassR) (L : List CP) (b : Nat) (c : Nm) (m : MethR) (p : MAddr) (w : World) (hW : WOk w b l L) (hM : MethAt w m p) (hm : MOk m) (hc : c.length ≤ 1048576) (hty : m.ty.length ≤ 1048576) (htys : ∀ x ∈ m.code, x.ty.length ≤ 1048576) (hn0 : 0 < m.code.length) :
   Calls Tryz.prog 37 #[.map (some b), .string ⟨⟨c⟩⟩, methV m p] w (LdRes (wl l) m.code.length (lookedF (wl l) c m) w) := by
 have hgv : GvOk (givesL m) := (args_gives hm.ty).2.2.2
 have hFI := fun W => fst_calls c m p W hm hc (by omega)
 have hfl := first_len hm c
 have hlo := hm.loc
 have HLN := Hd (first_lens hm hc)
 obtain ⟨w1, hw1⟩ : ∃ w1, w1 = ((w.alloc (.cells (mArr m p) 45)).alloc (.map #[] 0)).alloc (.cells (lkArr b m p (w.heap.size + 1) (.slice none 0 0)) 146) := ⟨_, rfl⟩
 have HB1 := Hd (show Below w.heap.size w w1 by rw [hw1]; exact bl_alloc (bl_alloc (bl_alloc (Below.refl _ _) _) _) _)
 have hs1 : w1.heap.size = w.heap.size + 1 + 1 + 1 := by rw [hw1]; simp
 have HL1 := Hd (show LkAt w1 w.heap.size (w.heap.size + 1 + 1) (w.heap.size + 1) b m p ⟨fun _ => none, []⟩ (.slice none 0 0) by
   rw [hw1]
   refine ⟨blk_new _ _ _ _ (by simp), ⟨0, _, ?_, fun z => rfl⟩, que_nil _ _ _, by omega, by omega⟩
   have e9 : (w.alloc (.cells (mArr m p) 45)).heap.size = w.heap.size + 1 := by simp
   have h9 := IMap.made (w.alloc (.cells (mArr m p) 45))
   rw [e9] at h9
   exact h9.kept (Below.heap_alloc _ _ _ (by simp)))
 have HM1 := Hd (show Blk w1 w.heap.size 45 (mArr m p) by rw [hw1]; exact ((blk_new _ _ _ _ rfl).alloc _).alloc _)
 have HW := Hd hW
 have HM := Hd hM
 have HMO := Hd hm
 have HFI := Hd hFI
 have HR0 := Hd (show lookedF (wl l) c m = if kindsErr (wl l) (firstF c m).loc ≠ 0 then none else if givesL m ≠ [86] ∧ kindErr (wl l) (givesL m) ≠ 0 then none else resF (wl l) m.code.length (lkFn (wl l) c m) (startF (firstF c m)) from rfl)
 have HKO := Hd (fun h => first_kok (L := wl l) (c := c) hm h)
 have HG := Hd hW.good
 generalize lookedF (wl l) c m = R at *
 generalize firstF c m = f at *
 rw [methV_arr]
 clear hW hM hm hFI
 unfold lkArr at hw1
 unfold mArr at hw1 ⊢
 have hmk := run_makeMap (P := Tryz.prog) 106
 go_enter Tryz.func37, Tryz.ntmps37
 go_upto_region 2 with fail
 rw [← hw1]
 clear hw1 hmk
 obtain ⟨g0, g1, g2, g3, g4, g5, g6, g7⟩ := mblk_cells HM1.out
 have g8 := HM1.out.lt
 rw [methV_arr] at HFI
 unfold mArr at HFI
 go_wp2_with fail
 refine (HFI.out _).mono ?_
 rintro e w2 ⟨hb2, ⟨la, lc, sa, sc⟩, rfl, hfq, hfn⟩
 generalize hgve : givesL m = gv at *
 have HGV := Hd hgv
 clear hgv
 unfold frV
 obtain ⟨w3, hw3⟩ : ∃ w3, w3 = w2.alloc (.cells #[.slice la f.loc.length lc, .slice sa f.st.length sc] 67) := ⟨_, rfl⟩
 have hb3 : Below w1.heap.size w1 w3 := by rw [hw3]; exact bl_alloc hb2 _
 have HT3 := Hd (show Blk w3 w2.heap.size 67 #[.slice la f.loc.length lc, .slice sa f.st.length sc] by rw [hw3]; exact blk_new _ _ _ _ rfl)
 have hs3 : w3.heap.size = w2.heap.size + 1 := by rw [hw3]; simp
 have hs2 := hb2.size
 have HB3 := Hd (bl_trans HB1.out hb3)
 have HL3 := Hd (HL1.out.below hb3)
 have HF3 := Hd (show FrAt w3 f ⟨la, lc, sa, sc⟩ by rw [hw3]; exact hfq.below (bl_alloc (Below.refl _ _) _))
 have HFN := Hd hfn
 have HB13 := Hd hb3
 have hq8 : f.loc.length ≤ 8 := by rw [hfl]; omega
 clear g0 g1 g2 g3 g4 g5 g6 g7 hb2 hb3 hfq hfn hfl
 go_upto_region 3 with fail
 rw [← hw3]
 clear hw3
 have t0 := HT3.out.cell 0
 have t1 := HT3.out.lt
 have hll := (show f.loc.length ≤ 8 from hq8)
 go_wp2_with fail
 clear t0 t1
 go_loopw [28] (fun i wr => ∃ k : Nat, k ≤ f.loc.length ∧ i = .int .i64 k ∧ Below w3.heap.size w3 wr ∧ Hid (∀ x ∈ f.loc.take k, kindErr (wl l) x = 0)) (fun i _ => f.loc.length - (RowKit.intOf i).toNat)
 case atStart => exact ⟨0, by omega, rfl, Below.refl _ _, Hd (by simp)⟩
 case round =>
   obtain ⟨k, hk, rfl, hb, HZ⟩ := hrel
   have HB := Hd hb
   by_cases hlk : k < f.loc.length
   · obtain ⟨x, hx⟩ : ∃ x, f.loc[k]? = some x := ⟨_, List.getElem?_eq_getElem hlk⟩
     obtain ⟨bq, off, hqa, hlt, c0⟩ := strs_cell (HF3.out.1.below hb) hx
     have hj0 : (0 : Int) ≤ (k : Int) := Int.natCast_nonneg _
     have hji : (k : Int) < (f.loc.length : Int) := by omega
     have HKI := Hd (kind_calls l L b x wr (HW.out.below (bl_trans HB3.out hb)) (HLN.out x (List.mem_of_getElem? hx)))
     have HX := Hd hx
     dsimp only at hqa
     subst hqa
     clear hx hb
     by_cases hkx : kindErr (wl l) x = 0
     · rw [hkx, errOf_zero] at HKI
       have HZ2 := Hd (show ∀ y ∈ f.loc.take (k + 1), kindErr (wl l) y = 0 by
         intro y hy
         rw [List.take_add_one, HX.out] at hy
         simp only [Option.toList_some, List.mem_append, List.mem_singleton] at hy
         rcases hy with hy | hy
         · exact HZ.out y hy
         · rw [hy]; exact hkx)
       clear hkx
       go_wp2_with fail
       refine HKI.out.mono ?_
       rintro e w4 ⟨rfl, hb4⟩
       have HB4 := Hd (bl_trans HB.out hb4)
       clear hb4
       go_wp2_with fail
       go_roundw
       case rel => exact ⟨k + 1, by omega, by go_num, HB4.out, HZ2⟩
       case measure => simp [RowKit.intOf]; omega
     · have HE := Hd (show R = none by rw [HR0.out, if_pos (kinds_ne HZ.out HX.out hkx)])
       rw [errOf_ne hkx] at HKI
       generalize kindErr (wl l) x = ke at *
       clear hkx
       go_wp2_with fail
       refine HKI.out.mono ?_
       rintro e w4 ⟨rfl, hb4⟩
       have HB4 := Hd (bl_trans HB3.out (bl_trans HB.out hb4))
       clear hb4
       go_wp2_with fail
       go_ret2
       exact ⟨HB4.out, Or.inl ⟨HE.out, rfl⟩⟩
   · obtain rfl : k = f.loc.length := by omega
     have hz0 : kindsErr (wl l) f.loc = 0 := kindsErr_zero.2 (by have := HZ.out; rwa [List.take_length] at this)
     have HKF := Hd (HKO.out hz0)
     have HGVE := Hd hgve
     have HR1 := Hd (show R = if gv ≠ [86] ∧ kindErr (wl l) gv ≠ 0 then none else resF (wl l) m.code.length (lkFn (wl l) c m) (startF f) by rw [HR0.out, if_neg (by simp [hz0])])
     have hmm : True := trivial
     have hsr := hb.size
     have HTr := Hd (HT3.out.below hb)
     have HME := Hd (fun W (hw : Below w3.heap.size w3 W) => (show Calls Tryz.prog 73 #[.pointer (some ⟨w.heap.size + 1 + 1, 0, none⟩), .int .i64 0, .agg #[.slice la f.loc.length lc, .slice sa f.st.length sc]] W (MeetRes w.heap.size (w.heap.size + 1 + 1) (w.heap.size + 1) b m p (.slice none 0 0) (meetF (wl l) ⟨fun _ => none, []⟩ 0 f) W) from
       meet_new (wl l) w.heap.size (w.heap.size + 1 + 1) (w.heap.size + 1) b m p ⟨fun _ => none, []⟩ (.slice none 0 0) 0 f ⟨la, lc, sa, sc⟩ W (HL3.out.below hw) (by omega) (HF3.out.below hw) (FarF.new (n := w1.heap.size) (by omega) (by omega) (fun k hk => by cases hk) HFN.out) (by simp) rfl))
     have t0 := HTr.out.cell 0
     have t1 := HTr.out.cell 1
     have t2 := HTr.out.lt
     clear hgve hz0 hb
     by_cases hv86 : gv = [86]
     · have HR2 := Hd (show R = resF (wl l) m.code.length (lkFn (wl l) c m) (startF f) by rw [HR1.out, if_neg (fun h => h.1 hv86)])
       have HBX := Hd HB.out
       have HBX2 := Hd (bl_trans HB3.out HB.out)
       subst hv86
       go_wp2_with fail
       refine (HME.out _ HBX.out).mono ?_
       rintro e w5 ⟨hb5, _, ⟨hno, rfl⟩ | ⟨s5, v5, hm5, rfl, hl5, hv5⟩⟩
       · exact absurd hno (by rw [meetF_new (show (⟨fun _ => none, []⟩ : LkSt).fr ((0 : Nat) : Int) = none from rfl)]; simp)
       · have hs5e : s5 = startF f := by
           rw [meetF_new (show (⟨fun _ => none, []⟩ : LkSt).fr ((0 : Nat) : Int) = none from rfl)] at hm5
           exact (Option.some.inj hm5).symm
         subst hs5e
         have HL5 := Hd hl5
         have HB5 := Hd (show Below w.heap.size w w5 from HBX2.out.trans hb5)
         have HSO := Hd (start_ok HKF.out hn0)
         have HMU0 := Hd (show mu (wl l) m.code.length (startF f) ≤ 500000 from by
           have h1 := mu_le HG.out HSO.out
           have h2 := HMO.out.flow.len
           have h3 : (startF f).todo.length = 1 := rfl
           omega)
         clear hb5 hm5 hl5 hv5 hmm
         go_wp2_with fail
         go_loopg [] (mu (wl l) m.code.length (startF f)) (fun gk wr => ∃ (s1 : LkSt) (v1 : Value), LkAt wr w.heap.size (w.heap.size + 1 + 1) (w.heap.size + 1) b m p s1 v1 ∧ Below w.heap.size w wr ∧ LkOk (wl l) m.code.length s1 ∧ gk = mu (wl l) m.code.length s1 ∧ gk ≤ 500000 ∧ Hid (resF (wl l) m.code.length (lkFn (wl l) c m) (startF f) = resF (wl l) m.code.length (lkFn (wl l) c m) s1))
         case atStart => exact ⟨startF f, v5, HL5.out, HB5.out, HSO.out, rfl, HMU0.out, Hd rfl⟩
         case round =>
           obtain ⟨s1, v1, hl1, hb1, ho1, hgk, hgl, HRS⟩ := hrel
           have HLr := Hd hl1
           have HBr := Hd hb1
           have HOr := Hd ho1
           have HGK := Hd hgk
           have kr2 := hl1.klt
           clear hb1 ho1 hgk
           cases htd : s1.todo with
           | nil =>
             obtain ⟨av, cv, hv, _⟩ := hl1.qu.form
             rw [List.length_map, htd] at hv
             subst hv
             have HE := Hd (show R = some s1.fr by rw [HR2.out, HRS.out, res_nil htd])
             have k9 := hl1.blk.cell 9
             have k10 := hl1.blk.cell 10
             unfold lkArr at k9 k10
             clear hl1 htd
             go_wp2_with fail
             go_ret2
             exact ⟨HBr.out, Or.inr ⟨s1.fr, _, HE.out, rfl, HLr.out.frs, fun z f h => HOr.out.kok z f h⟩⟩
           | cons z r =>
             have hq := hl1.qu
             rw [htd, List.map_cons] at hq
             obtain ⟨g, off, cap, rfl, hglt, hle, hmx, hcell, hq2⟩ := hq.front
             rw [List.length_map] at hle hq2
             rw [List.length_map] at HLr
             rw [List.length_map] at hl1
             have hcut := fun W => que_cut g off r.length cap W hle
             have hob : ∀ A, A = (if cap = 1 then some (⟨g, off, none⟩ : Addr) else some ⟨g, off + 1, none⟩) → (Value.slice A r.length (cap - 1)).ownBlock = (Value.slice (some ⟨g, off, none⟩) (r.length + 1) cap).ownBlock := fun A e => by
               rw [e]; by_cases h1 : cap = 1
               · rw [if_pos h1]; rfl
               · rw [if_neg h1]; rfl
             obtain ⟨A7, hA7⟩ : ∃ A, A = (if cap = 1 then some (⟨g, off, none⟩ : Addr) else some ⟨g, off + 1, none⟩) := ⟨_, rfl⟩
             have hob7 := hob A7 hA7
             rw [← hA7] at hcut hq2
             obtain ⟨hpk, hpm, hzl, hzs⟩ := pop_lk HOr.out htd
             have hl7 := hl1.cut hq2 hob7
             have HL7 := Hd hl7
             have HB7 := Hd (show Below w.heap.size w (wr.setCell ⟨w.heap.size + 1 + 1, 10, none⟩ (.slice A7 r.length (cap - 1))) from HBr.out.setCell (p := ⟨w.heap.size + 1 + 1, 10, none⟩) (by show w.heap.size ≤ w.heap.size + 1 + 1; omega) _)
             have HLO := Hd (look_calls l L w (w.heap.size + 1 + 1) (w.heap.size + 1) b m p c (givesL m) ⟨s1.fr, r⟩ (.slice A7 r.length (cap - 1)) z (wr.setCell ⟨w.heap.size + 1 + 1, 10, none⟩ (.slice A7 r.length (cap - 1))) HW.out HM.out HB7.out HL7.out hpk HMO.out hzl hzs (by have := HGK.out; omega) (by rw [HGVE.out]; exact HGV.out) hc htys)
             rw [HGVE.out] at HLO
             have HRN := Hd (fun h => res_none (L := wl l) (n := m.code.length) (lk := lkFn (wl l) c m) htd h)
             have HRS2 := Hd (fun s' (h : lkFn (wl l) c m z ⟨s1.fr, r⟩ = some s') => res_some (lk_step HG.out HMO.out) HOr.out htd h)
             have hlf : lookF (wl l) (cFn (wl l)) (afterF (wl l) c [86]) m.hs m.code z ⟨s1.fr, r⟩ = lkFn (wl l) c m z ⟨s1.fr, r⟩ := by unfold lkFn; rw [HGVE.out]
             rw [hlf] at HLO
             have k10 := hl1.blk.cell 10
             have k11 := hl1.blk.frozen 10
             unfold lkArr at k10
             clear hl1 hl7 hq hq2 hob hob7 hA7 hpk hlf htd
             go_wp2_with fail
             refine HLO.out.mono ?_
             rintro e w8 ⟨hb8, ⟨hno, rfl⟩ | ⟨s8, v8, hs8, rfl, hl8⟩⟩
             · have HE := Hd (show R = none by rw [HR2.out, HRS.out, HRN.out hno])
               have HB8 := Hd (show Below w.heap.size w w8 from hb8)
               clear hno hb8
               go_wp2_with fail
               go_ret2
               exact ⟨HB8.out, Or.inl ⟨HE.out, rfl⟩⟩
             · obtain ⟨hr8, ho8, hm8⟩ := HRS2.out s8 hs8
               have HB8 := Hd (show Below w.heap.size w w8 from hb8)
               have HL8 := Hd hl8
               have HO8 := Hd ho8
               have HR8 := Hd (HRS.out.trans hr8)
               clear hb8 hl8 hs8 ho8 hr8
               go_wp2_with fail
               go_roundg (mu (wl l) m.code.length s8)
               case measure => have := HGK.out; omega
               case rel => exact ⟨s8, v8, HL8.out, HB8.out, HO8.out, rfl, by have := HGK.out; omega, HR8⟩
     · have q86 : (gv == [86]) = false := by rw [beq_eq_false_iff_ne]; exact hv86
       have HKG := Hd (kind_calls l L b gv wr (HW.out.below (bl_trans HB3.out HB.out)) (by
         rcases HGV.out with h | h
         · rw [h]; simp
         · have := type_len25 h; omega))
       by_cases hkg : kindErr (wl l) gv = 0
       · have HR2 := Hd (show R = resF (wl l) m.code.length (lkFn (wl l) c m) (startF f) by rw [HR1.out, if_neg (fun h => h.2 hkg)])
         rw [hkg, errOf_zero] at HKG
         clear hv86 hkg
         go_wp2_with fail
         refine HKG.out.mono ?_
         rintro e w4 ⟨rfl, hb4⟩
         have HBX := Hd (bl_trans HB.out hb4)
         have HBX2 := Hd (bl_trans HB3.out (bl_trans HB.out hb4))
         have u0 := (HTr.out.below hb4).cell 0
         have u1 := (HTr.out.below hb4).cell 1
         have u2 := (HTr.out.below hb4).lt
         clear hb4 t0 t1 t2
         go_wp2_with fail
         refine (HME.out _ HBX.out).mono ?_
         rintro e w5 ⟨hb5, _, ⟨hno, rfl⟩ | ⟨s5, v5, hm5, rfl, hl5, hv5⟩⟩
         · exact absurd hno (by rw [meetF_new (show (⟨fun _ => none, []⟩ : LkSt).fr ((0 : Nat) : Int) = none from rfl)]; simp)
         · have hs5e : s5 = startF f := by
             rw [meetF_new (show (⟨fun _ => none, []⟩ : LkSt).fr ((0 : Nat) : Int) = none from rfl)] at hm5
             exact (Option.some.inj hm5).symm
           subst hs5e
           have HL5 := Hd hl5
           have HB5 := Hd (show Below w.heap.size w w5 from HBX2.out.trans hb5)
           have HSO := Hd (start_ok HKF.out hn0)
           have HMU0 := Hd (show mu (wl l) m.code.length (startF f) ≤ 500000 from by
             have h1 := mu_le HG.out HSO.out
             have h2 := HMO.out.flow.len
             have h3 : (startF f).todo.length = 1 := rfl
             omega)
           clear hb5 hm5 hl5 hv5 hmm
           go_wp2_with fail
           go_loopg [] (mu (wl l) m.code.length (startF f)) (fun gk wr => ∃ (s1 : LkSt) (v1 : Value), LkAt wr w.heap.size (w.heap.size + 1 + 1) (w.heap.size + 1) b m p s1 v1 ∧ Below w.heap.size w wr ∧ LkOk (wl l) m.code.length s1 ∧ gk = mu (wl l) m.code.length s1 ∧ gk ≤ 500000 ∧ Hid (resF (wl l) m.code.length (lkFn (wl l) c m) (startF f) = resF (wl l) m.code.length (lkFn (wl l) c m) s1))
           case atStart => exact ⟨startF f, v5, HL5.out, HB5.out, HSO.out, rfl, HMU0.out, Hd rfl⟩
           case round =>
             obtain ⟨s1, v1, hl1, hb1, ho1, hgk, hgl, HRS⟩ := hrel
             have HLr := Hd hl1
             have HBr := Hd hb1
             have HOr := Hd ho1
             have HGK := Hd hgk
             have kr2 := hl1.klt
             clear hb1 ho1 hgk
             cases htd : s1.todo with
             | nil =>
               obtain ⟨av, cv, hv, _⟩ := hl1.qu.form
               rw [List.length_map, htd] at hv
               subst hv
               have HE := Hd (show R = some s1.fr by rw [HR2.out, HRS.out, res_nil htd])
               have k9 := hl1.blk.cell 9
               have k10 := hl1.blk.cell 10
               unfold lkArr at k9 k10
               clear hl1 htd
               go_wp2_with fail
               go_ret2
               exact ⟨HBr.out, Or.inr ⟨s1.fr, _, HE.out, rfl, HLr.out.frs, fun z f h => HOr.out.kok z f h⟩⟩
             | cons z r =>
               have hq := hl1.qu
               rw [htd, List.map_cons] at hq
               obtain ⟨g, off, cap, rfl, hglt, hle, hmx, hcell, hq2⟩ := hq.front
               rw [List.length_map] at hle hq2
               rw [List.length_map] at HLr
               rw [List.length_map] at hl1
               have hcut := fun W => que_cut g off r.length cap W hle
               have hob : ∀ A, A = (if cap = 1 then some (⟨g, off, none⟩ : Addr) else some ⟨g, off + 1, none⟩) → (Value.slice A r.length (cap - 1)).ownBlock = (Value.slice (some ⟨g, off, none⟩) (r.length + 1) cap).ownBlock := fun A e => by
                 rw [e]; by_cases h1 : cap = 1
                 · rw [if_pos h1]; rfl
                 · rw [if_neg h1]; rfl
               obtain ⟨A7, hA7⟩ : ∃ A, A = (if cap = 1 then some (⟨g, off, none⟩ : Addr) else some ⟨g, off + 1, none⟩) := ⟨_, rfl⟩
               have hob7 := hob A7 hA7
               rw [← hA7] at hcut hq2
               obtain ⟨hpk, hpm, hzl, hzs⟩ := pop_lk HOr.out htd
               have hl7 := hl1.cut hq2 hob7
               have HL7 := Hd hl7
               have HB7 := Hd (show Below w.heap.size w (wr.setCell ⟨w.heap.size + 1 + 1, 10, none⟩ (.slice A7 r.length (cap - 1))) from HBr.out.setCell (p := ⟨w.heap.size + 1 + 1, 10, none⟩) (by show w.heap.size ≤ w.heap.size + 1 + 1; omega) _)
               have HLO := Hd (look_calls l L w (w.heap.size + 1 + 1) (w.heap.size + 1) b m p c (givesL m) ⟨s1.fr, r⟩ (.slice A7 r.length (cap - 1)) z (wr.setCell ⟨w.heap.size + 1 + 1, 10, none⟩ (.slice A7 r.length (cap - 1))) HW.out HM.out HB7.out HL7.out hpk HMO.out hzl hzs (by have := HGK.out; omega) (by rw [HGVE.out]; exact HGV.out) hc htys)
               rw [HGVE.out] at HLO
               have HRN := Hd (fun h => res_none (L := wl l) (n := m.code.length) (lk := lkFn (wl l) c m) htd h)
               have HRS2 := Hd (fun s' (h : lkFn (wl l) c m z ⟨s1.fr, r⟩ = some s') => res_some (lk_step HG.out HMO.out) HOr.out htd h)
               have hlf : lookF (wl l) (cFn (wl l)) (afterF (wl l) c gv) m.hs m.code z ⟨s1.fr, r⟩ = lkFn (wl l) c m z ⟨s1.fr, r⟩ := by unfold lkFn; rw [HGVE.out]
               rw [hlf] at HLO
               have k10 := hl1.blk.cell 10
               have k11 := hl1.blk.frozen 10
               unfold lkArr at k10
               clear hl1 hl7 hq hq2 hob hob7 hA7 hpk hlf htd
               go_wp2_with fail
               refine HLO.out.mono ?_
               rintro e w8 ⟨hb8, ⟨hno, rfl⟩ | ⟨s8, v8, hs8, rfl, hl8⟩⟩
               · have HE := Hd (show R = none by rw [HR2.out, HRS.out, HRN.out hno])
                 have HB8 := Hd (show Below w.heap.size w w8 from hb8)
                 clear hno hb8
                 go_wp2_with fail
                 go_ret2
                 exact ⟨HB8.out, Or.inl ⟨HE.out, rfl⟩⟩
               · obtain ⟨hr8, ho8, hm8⟩ := HRS2.out s8 hs8
                 have HB8 := Hd (show Below w.heap.size w w8 from hb8)
                 have HL8 := Hd hl8
                 have HO8 := Hd ho8
                 have HR8 := Hd (HRS.out.trans hr8)
                 clear hb8 hl8 hs8 ho8 hr8
                 go_wp2_with fail
                 go_roundg (mu (wl l) m.code.length s8)
                 case measure => have := HGK.out; omega
                 case rel => exact ⟨s8, v8, HL8.out, HB8.out, HO8.out, rfl, by have := HGK.out; omega, HR8⟩
       · have HE := Hd (show R = none by rw [HR1.out, if_pos ⟨hv86, hkg⟩])
         rw [errOf_ne hkg] at HKG
         generalize kindErr (wl l) gv = ke at *
         clear hv86 hkg
         go_wp2_with fail
         refine HKG.out.mono ?_
         rintro e w4 ⟨rfl, hb4⟩
         have HB4 := Hd (bl_trans HB3.out (bl_trans HB.out hb4))
         clear hb4
         go_wp2_with fail
         go_ret2
         exact ⟨HB4.out, Or.inl ⟨HE.out, rfl⟩⟩
def TyB (l : List ClassR) : Prop := Good l → ∀ c ∈ l, ∀ m ∈ c.meths, m.ty.length ≤ 1048576 ∧ ∀ x ∈ m.code, x.ty.length ≤ 1048576
theorem flatten_len : ∀ {A : List Nm}, (∀ t ∈ A, t.length ≤ 25) → A.flatten.length ≤ 25 * A.length
 | [], _ => by simp
 | x :: r, h => by
   have h1 := h x (by simp)
   have h2 := flatten_len (A := r) (fun t ht => h t (by simp [ht]))
   simp only [List.flatten_cons, List.length_append, List.length_cons]
   omega
open Classical in
theorem ins_ty_len {x : InsR} (h : insErr x = 0) : x.ty.length ≤ 1048576 := by
 obtain ⟨_, ht, _⟩ := ins_parts h
 by_cases hn : (needL x.op.toNat).contains 84 = true
 · unfold typedB at ht
   split at ht
   · have := kd_num2 [] ht
     unfold numB at ht
     rw [Bool.or_eq_true, beq_iff_eq, beq_iff_eq] at ht
     rcases ht with e | e <;> rw [e] <;> simp
   split at ht
   · rw [Bool.and_eq_true, decide_eq_true_eq] at ht
     have := type_len25 ht.1; omega
   split at ht
   · rw [Bool.and_eq_true, decide_eq_true_eq] at ht
     have := type_len25 ht.1; omega
   split at ht
   · rw [decide_eq_true_eq] at ht
     obtain ⟨A, g, h1, h2, h3, h4⟩ := ht
     have h5 := flatten_len (fun t h => type_len25 (h2 t h))
     have h6 : g.length ≤ 25 := by
       rcases h4 with e | e
       · rw [e]; simp
       · exact type_len25 e
     rw [h1]
     simp only [List.length_cons, List.length_append]
     omega
   · rename_i h1 h2 h3 h4
     exfalso
     have hop : x.op = ((x.op.toNat : Nat) : Int) := by
       unfold insErr at h
       split at h
       · omega
       · omega
     rw [hop] at h1 h2 h3 h4
     have hlt : x.op.toNat ≤ 28 := by
       unfold insErr at h
       split at h
       · omega
       · omega
     generalize x.op.toNat = n at *
     have : n = 0 ∨ n = 1 ∨ n = 2 ∨ n = 3 ∨ n = 4 ∨ n = 5 ∨ n = 6 ∨ n = 7 ∨ n = 8 ∨ n = 9 ∨ n = 10 ∨ n = 11 ∨ n = 12 ∨ n = 13 ∨ n = 14 ∨ n = 15 ∨ n = 16 ∨ n = 17 ∨ n = 18 ∨ n = 19 ∨ n = 20 ∨ n = 21 ∨ n = 22 ∨ n = 23 ∨ n = 24 ∨ n = 25 ∨ n = 26 ∨ n = 27 ∨ n = 28 := by omega
     rcases this with e | e | e | e | e | e | e | e | e | e | e | e | e | e | e | e | e | e | e | e | e | e | e | e | e | e | e | e | e <;> subst e <;> first | (simp [needL] at hn; done) | omega
 · unfold insErr at h
   split at h
   · omega
   split at h
   · omega
   rename_i h2
   simp only [Bool.or_eq_true, Bool.and_eq_true, Bool.not_eq_true', not_or, not_and] at h2
   have h3 := h2.1.1.2 (by simpa using hn)
   have : x.ty = [] := by simpa using h3
   rw [this]; simp
theorem tyB_of {l : List ClassR} (hB : ClsOk l) : TyB l := fun hg c hc m hm => by
 refine ⟨((hB c hc).2.meths m hm).ty, fun x hx => ?_⟩
 cases ha : m.abst with
 | false => exact ins_ty_len ((good_mok hg hc hm ha).flow.ins x hx)
 | true =>
   exfalso
   obtain ⟨_, _, _, _, h5, _⟩ := classErr_ok (hg.ok c hc)
   obtain ⟨j, hj⟩ := List.mem_iff_getElem?.1 hm
   have h := h5 j (List.getElem?_eq_some_iff.1 hj).1
   unfold methsErr at h
   rw [hj] at h
   simp only [Option.elim_some] at h
   unfold methErr at h
   split at h
   · omega
   split at h
   · omega
   split at h
   · omega
   split at h
   · omega
   unfold bodyErr at h
   rw [ha] at h
   simp only [if_true] at h
   split at h
   · omega
   rename_i h9
   simp only [Bool.or_eq_true, not_or, Bool.not_eq_true', Bool.not_eq_false] at h9
   have h10 := h9.1.2
   cases hcd : m.code with
   | nil => rw [hcd] at hx; simp at hx
   | cons y r => rw [hcd] at h10; simp at h10
noncomputable def mBad (L : List ClassR) (c : Nm) (m : MethR) : Bool := !m.abst && (lookedF L c m).isNone
noncomputable def cBad (L : List ClassR) (c : ClassR) : Bool := c.meths.any (mBad L c.nm)
noncomputable def ckErr (l : List ClassR) : Int := if readErr l ≠ 0 then readErr l else if l.any (cBad (wl l)) = true then 7 else 0
theorem flow_pos {l : List InsR} (h : FlowOk l) : 0 < l.length := by
 have := h.last
 cases l with
 | nil => simp [endOk] at this
 | cons x r => simp
theorem take_snoc_any {α : Type} {q : α → Bool} {l : List α} {k : Nat} {x : α} (h : ∀ y ∈ l.take k, q y = false) (hx : l[k]? = some x) (hq : q x = false) : ∀ y ∈ l.take (k + 1), q y = false := by
 intro y hy
 rw [List.take_add_one, hx] at hy
 simp only [Option.toList_some, List.mem_append, List.mem_singleton] at hy
 rcases hy with hy | hy
 · exact h y hy
 · rw [hy]; exact hq
end Go.Proofs.YtddbnboicmaooaaGreatDoor
