import Derived.Test.YtbnkckjdgpiggaaGreatDoorCc
import Derived.Test.YtbnkckjdgpiggaaGreatDoorCb
namespace Go.Proofs.YtbnkckjdgpiggaaGreatDoor
set_option maxRecDepth 100000
set_option maxHeartbeats 16000000
set_option linter.unusedVariables false
set_option linter.unusedSimpArgs false
open Go.RowKit Go.Shelf Go.Lib
theorem zzb (g off n cap : Nat) (w : World) (hc : n + 1 <= cap) : (Instr.slice 22 (.slice (some ⟨g, off, none⟩) (n + 1) cap) (some (.int .i64 1)) none none).run Tryz.prog w = .ok (.slice (if cap = 1 then some ⟨g, off, none⟩ else some ⟨g, off + 1, none⟩) n (cap - 1)) w := by
 have h1 : Tryz.prog.underlying 22 = some (.slice 3) := Tryz.underlying22
 have hz : (sizeOf 3).run Tryz.prog w = .ok 1 w := Tryz.sizeOf3 w
 have hadd : (⟨g, off, none⟩ : Addr).add 1 = ⟨g, off + 1, none⟩ := by unfold Addr.add; split <;> simp_all
 have h2 : (1 : Int) <= (n : Int) + 1 := by omega
 simp [Instr.slice, Instr.sliceBounds, Instr.sliceBound, run_underlying h1, asIntOf, hz, hadd, h2, Result.andThen]
def FrC (W : World) : Option FrR -> Option Value -> Prop
 | none, y => y = none
 | some f, y => ∃ q, y = some (frV f q) /\ zfg W f q
def zyw (W : World) (MB : Nat) (fr : Int -> Option FrR) : Prop := ∃ n F, zc7 W MB n F /\ ∀ z, FrC W (fr z) (F z)
theorem zyw.below {W W' : World} {MB : Nat} {fr : Int -> Option FrR} (h : zyw W MB fr) (hb : Below W.heap.size W W') : zyw W' MB fr := by
 obtain ⟨n, F, h1, h2⟩ := h
 refine ⟨n, F, h1.below hb, fun z => ?_⟩
 have := h2 z
 cases hf : fr z with
 | none => rw [hf] at this; exact this
 | some f =>
   rw [hf] at this
   obtain ⟨q, h3, h4⟩ := this
   exact ⟨q, h3, h4.below hb⟩
theorem ze8.frs {W : World} {B K MB b : Nat} {m : zo} {p : zaf} {s : zcj} {v : Value} (h : ze8 W B K MB b m p s v) : zyw W MB s.fr := by
 obtain ⟨n, F, h1, h2⟩ := h.fr
 refine ⟨n, F, h1, fun z => ?_⟩
 have := h2 z
 cases hf : s.fr z with
 | none => rw [hf] at this; exact this
 | some f =>
   rw [hf] at this
   obtain ⟨q, h3, h4, _⟩ := this
   exact ⟨q, h3, h4⟩
def z8r (L : List zd) (n : Nat) (r : Option (Int -> Option FrR)) (w : World) (e : Ending) (w' : World) : Prop :=
 Below w.heap.size w w' /\ ((r = none /\ e = .returned (.tuple #[.map none, .bool false])) \/ ∃ fr MB, r = some fr /\ e = .returned (.tuple #[.map (some MB), .bool true]) /\ zyw w' MB fr /\ ∀ z f, fr z = some f -> KOk L f /\ 0 <= z /\ z < (n : Int))
theorem z12 {L : List zd} {l : List Nm} {k : Nat} {x : Nm} (h0 : ∀ y ∈ l.take k, zh L y = 0) (hx : l[k]? = some x) (hk : zh L x ≠ 0) : zcc L l ≠ 0 := by rw [zln h0 hx hk]; exact hk
theorem ze8.cut {W : World} {B K MB b : Nat} {m : zo} {p : zaf} {s : zcj} {v v' : Value} {r : List Nat} (h : ze8 W B K MB b m p s v) (hq : ze2 W B 3 v' (r.map zi6)) (hv : v'.ownBlock = v.ownBlock) : ze8 (W.setCell ⟨K, 10, none⟩ v') B K MB b m p ⟨s.fr, r⟩ v' := by
 obtain ⟨n, F, h1, h2⟩ := h.fr
 have hkb : KbR K MB v W (W.setCell ⟨K, 10, none⟩ v') := ⟨rfl, rfl, rfl, by simp [World.setCell], fun k hk n1 n2 n3 => Below.heap_setCell _ _ _ _ (by exact n1)⟩
 refine ⟨zm h.blk 10 v', ⟨n, F, h1.kept (Below.heap_setCell _ _ _ _ (by exact fun e => h.ne e.symm)), fun z => (h2 z).keep hkb (Or.inl hv)⟩, hq.kept (fun g hg => Below.heap_setCell _ _ _ _ (fun e => h.nvK (by rw [<- hv, hg, e]))), h.bK, h.bM⟩
theorem zwl {m : zo} (hm : MOk m) {c : Nm} (hc : c.length <= 1048576) : ∀ x ∈ (zc8 c m).loc, x.length <= 8388608 := by
 intro x hx
 simp only [zc8, zdv, List.mem_append] at hx
 rcases hx with (hx | hx) | hx
 . split at hx
   . simp at hx
   . rw [List.mem_singleton.1 hx]; simp [z7]; omega
 . have := zdp ((zfq hm.ty).2.1 x hx); omega
 . rw [(List.mem_replicate.1 hx).2]; simp
theorem zrd (l : List zd) (L : List CP) (b : Nat) (c : Nm) (m : zo) (p : zaf) (w : World) (hW : WOk w b l L) (hM : zer w m p) (hm : MOk m) (hc : c.length <= 1048576) (hty : m.ty.length <= 1048576) (htys : ∀ x ∈ m.code, x.ty.length <= 1048576 /\ OpK x) (hn0 : 0 < m.code.length) :
   Calls Tryz.prog 48 #[.map (some b), .string ⟨⟨c⟩⟩, zca m p] w (z8r (wl l) m.code.length (zfb (wl l) c m) w) := by
 have hgv : z8l (zdw m) := (zfq hm.ty).2.2.2
 have hFI := fun W => zy7 c m p W hm hc (by omega)
 have hfl := zre hm c
 have hlo := hm.loc
 have HLN := Hq (zwl hm hc)
 obtain ⟨w1, hw1⟩ : ∃ w1, w1 = ((w.alloc (.cells (zj4 m p) 45)).alloc (.map #[] 0)).alloc (.cells (zde b m p (w.heap.size + 1) (.slice none 0 0)) 139) := ⟨_, rfl⟩
 have HB1 := Hq (show Below w.heap.size w w1 by rw [hw1]; exact ze (ze (ze (Below.refl _ _) _) _) _)
 have hs1 : w1.heap.size = w.heap.size + 1 + 1 + 1 := by rw [hw1]; simp
 have HL1 := Hq (show ze8 w1 w.heap.size (w.heap.size + 1 + 1) (w.heap.size + 1) b m p ⟨fun _ => none, []⟩ (.slice none 0 0) by
   rw [hw1]
   refine ⟨zg _ _ _ _ (by simp), ⟨0, _, ?_, fun z => rfl⟩, z5e _ _ _, by omega, by omega⟩
   have e9 : (w.alloc (.cells (zj4 m p) 45)).heap.size = w.heap.size + 1 := by simp
   have h9 := zc7.made (w.alloc (.cells (zj4 m p) 45))
   rw [e9] at h9
   exact h9.kept (Below.heap_alloc _ _ _ (by simp)))
 have HM1 := Hq (show Blk w1 w.heap.size 45 (zj4 m p) by rw [hw1]; exact ((zg _ _ _ _ rfl).alloc _).alloc _)
 have HW := Hq hW
 have HM := Hq hM
 have HMO := Hq hm
 have HFI := Hq hFI
 have HR0 := Hq (show zfb (wl l) c m = if zcc (wl l) (zc8 c m).loc ≠ 0 then none else if zdw m ≠ [86] /\ zh (wl l) (zdw m) ≠ 0 then none else zp9 (wl l) m.code.length (zm1 (wl l) c m) (zcq (zc8 c m)) from rfl)
 have HKO := Hq (fun h => zp0 (L := wl l) (c := c) hm h)
 have HG := Hq hW.good
 generalize zfb (wl l) c m = R at *
 generalize zc8 c m = f at *
 rw [ziw]
 clear hW hM hm hFI
 unfold zde at hw1
 unfold zj4 at hw1 |-
 have hmk := run_makeMap (P := Tryz.prog) 106
 go_enter Tryz.func48, Tryz.ntmps48
 go_upto_region 2 with fail
 rw [<- hw1]
 clear hw1 hmk
 obtain ⟨g0, g1, g2, g3, g4, g5, g6, g7⟩ := zei HM1.out
 have g8 := HM1.out.lt
 rw [ziw] at HFI
 unfold zj4 at HFI
 go_wp2_with fail
 refine (HFI.out _).mono ?_
 rintro e w2 ⟨hb2, ⟨la, lc, sa, sc⟩, rfl, hfq, hfn⟩
 generalize hgve : zdw m = gv at *
 have HGV := Hq hgv
 clear hgv
 unfold frV
 obtain ⟨w3, hw3⟩ : ∃ w3, w3 = w2.alloc (.cells #[.slice la f.loc.length lc, .slice sa f.st.length sc] 141) := ⟨_, rfl⟩
 have hb3 : Below w1.heap.size w1 w3 := by rw [hw3]; exact ze hb2 _
 have HT3 := Hq (show Blk w3 w2.heap.size 141 #[.slice la f.loc.length lc, .slice sa f.st.length sc] by rw [hw3]; exact zg _ _ _ _ rfl)
 have hs3 : w3.heap.size = w2.heap.size + 1 := by rw [hw3]; simp
 have hs2 := hb2.size
 have HB3 := Hq (zc HB1.out hb3)
 have HL3 := Hq (HL1.out.below hb3)
 have HF3 := Hq (show zfg w3 f ⟨la, lc, sa, sc⟩ by rw [hw3]; exact hfq.below (ze (Below.refl _ _) _))
 have HFN := Hq hfn
 have HB13 := Hq hb3
 have hq8 : f.loc.length <= 8 := by rw [hfl]; omega
 clear g0 g1 g2 g3 g4 g5 g6 g7 hb2 hb3 hfq hfn hfl
 go_upto_region 3 with fail
 rw [<- hw3]
 clear hw3
 have t0 := HT3.out.cell 0
 have t1 := HT3.out.lt
 have hll := (show f.loc.length <= 8 from hq8)
 go_wp2_with fail
 clear t0 t1
 go_loopw [28] (fun i wr => ∃ k : Nat, k <= f.loc.length /\ i = .int .i64 k /\ Below w3.heap.size w3 wr /\ Hid (∀ x ∈ f.loc.take k, zh (wl l) x = 0)) (fun i _ => f.loc.length - (RowKit.intOf i).toNat)
 case atStart => exact ⟨0, by omega, rfl, Below.refl _ _, Hq (by simp)⟩
 case round =>
   obtain ⟨k, hk, rfl, hb, HZ⟩ := hrel
   have HB := Hq hb
   by_cases hlk : k < f.loc.length
   . obtain ⟨x, hx⟩ : ∃ x, f.loc[k]? = some x := ⟨_, List.getElem?_eq_getElem hlk⟩
     obtain ⟨bq, off, hqa, hlt, c0⟩ := zbr (HF3.out.1.below hb) hx
     have hj0 : (0 : Int) <= (k : Int) := Int.natCast_nonneg _
     have hji : (k : Int) < (f.loc.length : Int) := by omega
     have HKI := Hq (zhg l L b x wr (HW.out.below (zc HB3.out hb)) (HLN.out x (List.mem_of_getElem? hx)))
     have HX := Hq hx
     dsimp only at hqa
     subst hqa
     clear hx hb
     by_cases hkx : zh (wl l) x = 0
     . rw [hkx, errOf_zero] at HKI
       have HZ2 := Hq (show ∀ y ∈ f.loc.take (k + 1), zh (wl l) y = 0 by
         intro y hy
         rw [List.take_add_one, HX.out] at hy
         simp only [Option.toList_some, List.mem_append, List.mem_singleton] at hy
         rcases hy with hy | hy
         . exact HZ.out y hy
         . rw [hy]; exact hkx)
       clear hkx
       go_wp2_with fail
       refine HKI.out.mono ?_
       rintro e w4 ⟨rfl, hb4⟩
       have HB4 := Hq (zc HB.out hb4)
       clear hb4
       go_wp2_with fail
       go_roundw
       case rel => exact ⟨k + 1, by omega, by go_num, HB4.out, HZ2⟩
       case measure => simp [RowKit.intOf]; omega
     . have HE := Hq (show R = none by rw [HR0.out, if_pos (z12 HZ.out HX.out hkx)])
       rw [za4 hkx] at HKI
       generalize zh (wl l) x = ke at *
       clear hkx
       go_wp2_with fail
       refine HKI.out.mono ?_
       rintro e w4 ⟨rfl, hb4⟩
       have HB4 := Hq (zc HB3.out (zc HB.out hb4))
       clear hb4
       go_wp2_with fail
       go_ret2
       exact ⟨HB4.out, Or.inl ⟨HE.out, rfl⟩⟩
   . obtain rfl : k = f.loc.length := by omega
     have hz0 : zcc (wl l) f.loc = 0 := zdc.2 (by have := HZ.out; rwa [List.take_length] at this)
     have HKF := Hq (HKO.out hz0)
     have HGVE := Hq hgve
     have HR1 := Hq (show R = if gv ≠ [86] /\ zh (wl l) gv ≠ 0 then none else zp9 (wl l) m.code.length (zm1 (wl l) c m) (zcq f) by rw [HR0.out, if_neg (by simp [hz0])])
     have hmm : True := trivial
     have hsr := hb.size
     have HTr := Hq (HT3.out.below hb)
     have HME := Hq (fun W (hw : Below w3.heap.size w3 W) => (show Calls Tryz.prog 82 #[.pointer (some ⟨w.heap.size + 1 + 1, 0, none⟩), .int .i64 0, .agg #[.slice la f.loc.length lc, .slice sa f.st.length sc]] W (zpf w.heap.size (w.heap.size + 1 + 1) (w.heap.size + 1) b m p (.slice none 0 0) (ze0 (wl l) ⟨fun _ => none, []⟩ 0 f) W) from
       zu3 (wl l) w.heap.size (w.heap.size + 1 + 1) (w.heap.size + 1) b m p ⟨fun _ => none, []⟩ (.slice none 0 0) 0 f ⟨la, lc, sa, sc⟩ W (HL3.out.below hw) (by omega) (HF3.out.below hw) (zm0.new (n := w1.heap.size) (by omega) (by omega) (fun k hk => by cases hk) HFN.out) (by simp) rfl))
     have t0 := HTr.out.cell 0
     have t1 := HTr.out.cell 1
     have t2 := HTr.out.lt
     clear hgve hz0 hb
     by_cases hv86 : gv = [86]
     . have HR2 := Hq (show R = zp9 (wl l) m.code.length (zm1 (wl l) c m) (zcq f) by rw [HR1.out, if_neg (fun h => h.1 hv86)])
       have HBX := Hq HB.out
       have HBX2 := Hq (zc HB3.out HB.out)
       subst hv86
       go_wp2_with fail
       refine (HME.out _ HBX.out).mono ?_
       rintro e w5 ⟨hb5, _, ⟨hno, rfl⟩ | ⟨s5, v5, hm5, rfl, hl5, hv5⟩⟩
       . exact absurd hno (by rw [zet (show (⟨fun _ => none, []⟩ : zcj).fr ((0 : Nat) : Int) = none from rfl)]; simp)
       . have hs5e : s5 = zcq f := by
           rw [zet (show (⟨fun _ => none, []⟩ : zcj).fr ((0 : Nat) : Int) = none from rfl)] at hm5
           exact (Option.some.inj hm5).symm
         subst hs5e
         have HL5 := Hq hl5
         have HB5 := Hq (show Below w.heap.size w w5 from HBX2.out.trans hb5)
         have HSO := Hq (zou HKF.out hn0)
         have HMU0 := Hq (show mu (wl l) m.code.length (zcq f) <= 500000 from by
           have h1 := z6v HG.out HSO.out
           have h2 := HMO.out.flow.len
           have h3 : (zcq f).todo.length = 1 := rfl
           omega)
         clear hb5 hm5 hl5 hv5 hmm
         go_wp2_with fail
         go_loopg [] (mu (wl l) m.code.length (zcq f)) (fun gk wr => ∃ (s1 : zcj) (v1 : Value), ze8 wr w.heap.size (w.heap.size + 1 + 1) (w.heap.size + 1) b m p s1 v1 /\ Below w.heap.size w wr /\ znf (wl l) m.code.length s1 /\ gk = mu (wl l) m.code.length s1 /\ gk <= 500000 /\ Hid (zp9 (wl l) m.code.length (zm1 (wl l) c m) (zcq f) = zp9 (wl l) m.code.length (zm1 (wl l) c m) s1))
         case atStart => exact ⟨zcq f, v5, HL5.out, HB5.out, HSO.out, rfl, HMU0.out, Hq rfl⟩
         case round =>
           obtain ⟨s1, v1, hl1, hb1, ho1, hgk, hgl, HRS⟩ := hrel
           have HLr := Hq hl1
           have HBr := Hq hb1
           have HOr := Hq ho1
           have HGK := Hq hgk
           have kr2 := hl1.klt
           clear hb1 ho1 hgk
           cases htd : s1.todo with
           | nil =>
             obtain ⟨av, cv, hv, _⟩ := hl1.qu.form
             rw [List.length_map, htd] at hv
             subst hv
             have HE := Hq (show R = some s1.fr by rw [HR2.out, HRS.out, zsp htd])
             have k9 := hl1.blk.cell 9
             have k10 := hl1.blk.cell 10
             unfold zde at k9 k10
             clear hl1 htd
             go_wp2_with fail
             go_ret2
             exact ⟨HBr.out, Or.inr ⟨s1.fr, _, HE.out, rfl, HLr.out.frs, fun z f h => HOr.out.kok z f h⟩⟩
           | cons z r =>
             have hq := hl1.qu
             rw [htd, List.map_cons] at hq
             obtain ⟨g, off, cap, rfl, hglt, hle, hmx, hcell, hq2⟩ := hq.front
             rw [List.length_map] at hle hq2
             rw [List.length_map] at HLr
             rw [List.length_map] at hl1
             have hcut := fun W => zzb g off r.length cap W hle
             have hob : ∀ A, A = (if cap = 1 then some (⟨g, off, none⟩ : Addr) else some ⟨g, off + 1, none⟩) -> (Value.slice A r.length (cap - 1)).ownBlock = (Value.slice (some ⟨g, off, none⟩) (r.length + 1) cap).ownBlock := fun A e => by
               rw [e]; by_cases h1 : cap = 1
               . rw [if_pos h1]; rfl
               . rw [if_neg h1]; rfl
             obtain ⟨A7, hA7⟩ : ∃ A, A = (if cap = 1 then some (⟨g, off, none⟩ : Addr) else some ⟨g, off + 1, none⟩) := ⟨_, rfl⟩
             have hob7 := hob A7 hA7
             rw [<- hA7] at hcut hq2
             obtain ⟨hpk, hpm, hzl, hzs⟩ := zud HOr.out htd
             have hl7 := hl1.cut hq2 hob7
             have HL7 := Hq hl7
             have HB7 := Hq (show Below w.heap.size w (wr.setCell ⟨w.heap.size + 1 + 1, 10, none⟩ (.slice A7 r.length (cap - 1))) from HBr.out.setCell (p := ⟨w.heap.size + 1 + 1, 10, none⟩) (by show w.heap.size <= w.heap.size + 1 + 1; omega) _)
             have HLO := Hq (znz l L w (w.heap.size + 1 + 1) (w.heap.size + 1) b m p c (zdw m) ⟨s1.fr, r⟩ (.slice A7 r.length (cap - 1)) z (wr.setCell ⟨w.heap.size + 1 + 1, 10, none⟩ (.slice A7 r.length (cap - 1))) HW.out HM.out HB7.out HL7.out hpk HMO.out hzl hzs (by have := HGK.out; omega) (by rw [HGVE.out]; exact HGV.out) hc htys)
             rw [HGVE.out] at HLO
             have HRN := Hq (fun h => zuw (L := wl l) (n := m.code.length) (lk := zm1 (wl l) c m) htd h)
             have HRS2 := Hq (fun s' (h : zm1 (wl l) c m z ⟨s1.fr, r⟩ = some s') => zhc (zsq HG.out HMO.out) HOr.out htd h)
             have hlf : zly (wl l) (cFn (wl l)) (zb0 (wl l) c [86]) m.hs m.code z ⟨s1.fr, r⟩ = zm1 (wl l) c m z ⟨s1.fr, r⟩ := by unfold zm1; rw [HGVE.out]
             rw [hlf] at HLO
             have k10 := hl1.blk.cell 10
             have k11 := hl1.blk.frozen 10
             unfold zde at k10
             clear hl1 hl7 hq hq2 hob hob7 hA7 hpk hlf htd
             go_wp2_with fail
             refine HLO.out.mono ?_
             rintro e w8 ⟨hb8, ⟨hno, rfl⟩ | ⟨s8, v8, hs8, rfl, hl8⟩⟩
             . have HE := Hq (show R = none by rw [HR2.out, HRS.out, HRN.out hno])
               have HB8 := Hq (show Below w.heap.size w w8 from hb8)
               clear hno hb8
               go_wp2_with fail
               go_ret2
               exact ⟨HB8.out, Or.inl ⟨HE.out, rfl⟩⟩
             . obtain ⟨hr8, ho8, hm8⟩ := HRS2.out s8 hs8
               have HB8 := Hq (show Below w.heap.size w w8 from hb8)
               have HL8 := Hq hl8
               have HO8 := Hq ho8
               have HR8 := Hq (HRS.out.trans hr8)
               clear hb8 hl8 hs8 ho8 hr8
               go_wp2_with fail
               go_roundg (mu (wl l) m.code.length s8)
               case measure => have := HGK.out; omega
               case rel => exact ⟨s8, v8, HL8.out, HB8.out, HO8.out, rfl, by have := HGK.out; omega, HR8⟩
     . have q86 : (gv == [86]) = false := by rw [beq_eq_false_iff_ne]; exact hv86
       have HKG := Hq (zhg l L b gv wr (HW.out.below (zc HB3.out HB.out)) (by
         rcases HGV.out with h | h
         . rw [h]; simp
         . have := zdp h; omega))
       by_cases hkg : zh (wl l) gv = 0
       . have HR2 := Hq (show R = zp9 (wl l) m.code.length (zm1 (wl l) c m) (zcq f) by rw [HR1.out, if_neg (fun h => h.2 hkg)])
         rw [hkg, errOf_zero] at HKG
         clear hv86 hkg
         go_wp2_with fail
         refine HKG.out.mono ?_
         rintro e w4 ⟨rfl, hb4⟩
         have HBX := Hq (zc HB.out hb4)
         have HBX2 := Hq (zc HB3.out (zc HB.out hb4))
         have u0 := (HTr.out.below hb4).cell 0
         have u1 := (HTr.out.below hb4).cell 1
         have u2 := (HTr.out.below hb4).lt
         clear hb4 t0 t1 t2
         go_wp2_with fail
         refine (HME.out _ HBX.out).mono ?_
         rintro e w5 ⟨hb5, _, ⟨hno, rfl⟩ | ⟨s5, v5, hm5, rfl, hl5, hv5⟩⟩
         . exact absurd hno (by rw [zet (show (⟨fun _ => none, []⟩ : zcj).fr ((0 : Nat) : Int) = none from rfl)]; simp)
         . have hs5e : s5 = zcq f := by
             rw [zet (show (⟨fun _ => none, []⟩ : zcj).fr ((0 : Nat) : Int) = none from rfl)] at hm5
             exact (Option.some.inj hm5).symm
           subst hs5e
           have HL5 := Hq hl5
           have HB5 := Hq (show Below w.heap.size w w5 from HBX2.out.trans hb5)
           have HSO := Hq (zou HKF.out hn0)
           have HMU0 := Hq (show mu (wl l) m.code.length (zcq f) <= 500000 from by
             have h1 := z6v HG.out HSO.out
             have h2 := HMO.out.flow.len
             have h3 : (zcq f).todo.length = 1 := rfl
             omega)
           clear hb5 hm5 hl5 hv5 hmm
           go_wp2_with fail
           go_loopg [] (mu (wl l) m.code.length (zcq f)) (fun gk wr => ∃ (s1 : zcj) (v1 : Value), ze8 wr w.heap.size (w.heap.size + 1 + 1) (w.heap.size + 1) b m p s1 v1 /\ Below w.heap.size w wr /\ znf (wl l) m.code.length s1 /\ gk = mu (wl l) m.code.length s1 /\ gk <= 500000 /\ Hid (zp9 (wl l) m.code.length (zm1 (wl l) c m) (zcq f) = zp9 (wl l) m.code.length (zm1 (wl l) c m) s1))
           case atStart => exact ⟨zcq f, v5, HL5.out, HB5.out, HSO.out, rfl, HMU0.out, Hq rfl⟩
           case round =>
             obtain ⟨s1, v1, hl1, hb1, ho1, hgk, hgl, HRS⟩ := hrel
             have HLr := Hq hl1
             have HBr := Hq hb1
             have HOr := Hq ho1
             have HGK := Hq hgk
             have kr2 := hl1.klt
             clear hb1 ho1 hgk
             cases htd : s1.todo with
             | nil =>
               obtain ⟨av, cv, hv, _⟩ := hl1.qu.form
               rw [List.length_map, htd] at hv
               subst hv
               have HE := Hq (show R = some s1.fr by rw [HR2.out, HRS.out, zsp htd])
               have k9 := hl1.blk.cell 9
               have k10 := hl1.blk.cell 10
               unfold zde at k9 k10
               clear hl1 htd
               go_wp2_with fail
               go_ret2
               exact ⟨HBr.out, Or.inr ⟨s1.fr, _, HE.out, rfl, HLr.out.frs, fun z f h => HOr.out.kok z f h⟩⟩
             | cons z r =>
               have hq := hl1.qu
               rw [htd, List.map_cons] at hq
               obtain ⟨g, off, cap, rfl, hglt, hle, hmx, hcell, hq2⟩ := hq.front
               rw [List.length_map] at hle hq2
               rw [List.length_map] at HLr
               rw [List.length_map] at hl1
               have hcut := fun W => zzb g off r.length cap W hle
               have hob : ∀ A, A = (if cap = 1 then some (⟨g, off, none⟩ : Addr) else some ⟨g, off + 1, none⟩) -> (Value.slice A r.length (cap - 1)).ownBlock = (Value.slice (some ⟨g, off, none⟩) (r.length + 1) cap).ownBlock := fun A e => by
                 rw [e]; by_cases h1 : cap = 1
                 . rw [if_pos h1]; rfl
                 . rw [if_neg h1]; rfl
               obtain ⟨A7, hA7⟩ : ∃ A, A = (if cap = 1 then some (⟨g, off, none⟩ : Addr) else some ⟨g, off + 1, none⟩) := ⟨_, rfl⟩
               have hob7 := hob A7 hA7
               rw [<- hA7] at hcut hq2
               obtain ⟨hpk, hpm, hzl, hzs⟩ := zud HOr.out htd
               have hl7 := hl1.cut hq2 hob7
               have HL7 := Hq hl7
               have HB7 := Hq (show Below w.heap.size w (wr.setCell ⟨w.heap.size + 1 + 1, 10, none⟩ (.slice A7 r.length (cap - 1))) from HBr.out.setCell (p := ⟨w.heap.size + 1 + 1, 10, none⟩) (by show w.heap.size <= w.heap.size + 1 + 1; omega) _)
               have HLO := Hq (znz l L w (w.heap.size + 1 + 1) (w.heap.size + 1) b m p c (zdw m) ⟨s1.fr, r⟩ (.slice A7 r.length (cap - 1)) z (wr.setCell ⟨w.heap.size + 1 + 1, 10, none⟩ (.slice A7 r.length (cap - 1))) HW.out HM.out HB7.out HL7.out hpk HMO.out hzl hzs (by have := HGK.out; omega) (by rw [HGVE.out]; exact HGV.out) hc htys)
               rw [HGVE.out] at HLO
               have HRN := Hq (fun h => zuw (L := wl l) (n := m.code.length) (lk := zm1 (wl l) c m) htd h)
               have HRS2 := Hq (fun s' (h : zm1 (wl l) c m z ⟨s1.fr, r⟩ = some s') => zhc (zsq HG.out HMO.out) HOr.out htd h)
               have hlf : zly (wl l) (cFn (wl l)) (zb0 (wl l) c gv) m.hs m.code z ⟨s1.fr, r⟩ = zm1 (wl l) c m z ⟨s1.fr, r⟩ := by unfold zm1; rw [HGVE.out]
               rw [hlf] at HLO
               have k10 := hl1.blk.cell 10
               have k11 := hl1.blk.frozen 10
               unfold zde at k10
               clear hl1 hl7 hq hq2 hob hob7 hA7 hpk hlf htd
               go_wp2_with fail
               refine HLO.out.mono ?_
               rintro e w8 ⟨hb8, ⟨hno, rfl⟩ | ⟨s8, v8, hs8, rfl, hl8⟩⟩
               . have HE := Hq (show R = none by rw [HR2.out, HRS.out, HRN.out hno])
                 have HB8 := Hq (show Below w.heap.size w w8 from hb8)
                 clear hno hb8
                 go_wp2_with fail
                 go_ret2
                 exact ⟨HB8.out, Or.inl ⟨HE.out, rfl⟩⟩
               . obtain ⟨hr8, ho8, hm8⟩ := HRS2.out s8 hs8
                 have HB8 := Hq (show Below w.heap.size w w8 from hb8)
                 have HL8 := Hq hl8
                 have HO8 := Hq ho8
                 have HR8 := Hq (HRS.out.trans hr8)
                 clear hb8 hl8 hs8 ho8 hr8
                 go_wp2_with fail
                 go_roundg (mu (wl l) m.code.length s8)
                 case measure => have := HGK.out; omega
                 case rel => exact ⟨s8, v8, HL8.out, HB8.out, HO8.out, rfl, by have := HGK.out; omega, HR8⟩
       . have HE := Hq (show R = none by rw [HR1.out, if_pos ⟨hv86, hkg⟩])
         rw [za4 hkg] at HKG
         generalize zh (wl l) gv = ke at *
         clear hv86 hkg
         go_wp2_with fail
         refine HKG.out.mono ?_
         rintro e w4 ⟨rfl, hb4⟩
         have HB4 := Hq (zc HB3.out (zc HB.out hb4))
         clear hb4
         go_wp2_with fail
         go_ret2
         exact ⟨HB4.out, Or.inl ⟨HE.out, rfl⟩⟩
def TyB (l : List zd) : Prop := zdf l -> ∀ c ∈ l, ∀ m ∈ c.meths, m.ty.length <= 1048576 /\ ∀ x ∈ m.code, x.ty.length <= 1048576 /\ OpK x
theorem zmu : ∀ {A : List Nm}, (∀ t ∈ A, t.length <= 25) -> A.flatten.length <= 25 * A.length
 | [], _ => by simp
 | x :: r, h => by
   have h1 := h x (by simp)
   have h2 := zmu (A := r) (fun t ht => h t (by simp [ht]))
   simp only [List.flatten_cons, List.length_append, List.length_cons]
   omega
open Classical in
theorem zv8 {x : zal} (h : zar x = 0) : x.ty.length <= 1048576 := by
 obtain ⟨_, ht, _⟩ := zix h
 by_cases hn : (zgh x.op.toNat).contains 84 = true
 . unfold zbc at ht
   split at ht
   . have := zeo [] ht
     unfold zjf at ht
     rw [Bool.or_eq_true, beq_iff_eq, beq_iff_eq] at ht
     rcases ht with e | e <;> rw [e] <;> simp
   split at ht
   . rw [Bool.and_eq_true, decide_eq_true_eq] at ht
     have := zdp ht.1; omega
   split at ht
   . rw [Bool.and_eq_true, decide_eq_true_eq] at ht
     have := zdp ht.1; omega
   split at ht
   . rw [decide_eq_true_eq] at ht
     obtain ⟨A, g, h1, h2, h3, h4⟩ := ht
     have h5 := zmu (fun t h => zdp (h2 t h))
     have h6 : g.length <= 25 := by
       rcases h4 with e | e
       . rw [e]; simp
       . exact zdp e
     rw [h1]
     simp only [List.length_cons, List.length_append]
     omega
   . rename_i h1 h2 h3 h4
     exfalso
     have hop : x.op = ((x.op.toNat : Nat) : Int) := by
       unfold zar at h
       split at h
       . omega
       . omega
     rw [hop] at h1 h2 h3 h4
     have hlt : x.op.toNat <= 28 := by
       unfold zar at h
       split at h
       . omega
       . omega
     generalize x.op.toNat = n at *
     have : n = 0 \/ n = 1 \/ n = 2 \/ n = 3 \/ n = 4 \/ n = 5 \/ n = 6 \/ n = 7 \/ n = 8 \/ n = 9 \/ n = 10 \/ n = 11 \/ n = 12 \/ n = 13 \/ n = 14 \/ n = 15 \/ n = 16 \/ n = 17 \/ n = 18 \/ n = 19 \/ n = 20 \/ n = 21 \/ n = 22 \/ n = 23 \/ n = 24 \/ n = 25 \/ n = 26 \/ n = 27 \/ n = 28 := by omega
     rcases this with e | e | e | e | e | e | e | e | e | e | e | e | e | e | e | e | e | e | e | e | e | e | e | e | e | e | e | e | e <;> subst e <;> first | (simp [zgh] at hn; done) | omega
 . unfold zar at h
   split at h
   . omega
   split at h
   . omega
   rename_i h2
   simp only [Bool.or_eq_true, Bool.and_eq_true, Bool.not_eq_true', not_or, not_and] at h2
   have h3 := h2.1.1.2 (by simpa using hn)
   have : x.ty = [] := by simpa using h3
   rw [this]; simp
theorem z3z {l : List zd} (hB : zl9 l) : TyB l := fun hg c hc m hm => by
 refine ⟨((hB c hc).2.meths m hm).ty, fun x hx => ⟨?_, (((hB c hc).1.ms m hm).tys x hx).2⟩⟩
 cases ha : m.abst with
 | false => exact zv8 ((zoo hg hc hm ha).flow.ins x hx)
 | true =>
   exfalso
   obtain ⟨_, _, _, _, h5, _⟩ := zf6 (hg.ok c hc)
   obtain ⟨j, hj⟩ := List.mem_iff_getElem?.1 hm
   have h := h5 j (List.getElem?_eq_some_iff.1 hj).1
   unfold zbu at h
   rw [hj] at h
   simp only [Option.elim_some] at h
   unfold zbx at h
   split at h
   . omega
   split at h
   . omega
   split at h
   . omega
   split at h
   . omega
   unfold zc2 at h
   rw [ha] at h
   simp only [if_true] at h
   split at h
   . omega
   rename_i h9
   simp only [Bool.or_eq_true, not_or, Bool.not_eq_true', Bool.not_eq_false] at h9
   have h10 := h9.1.2
   cases hcd : m.code with
   | nil => rw [hcd] at hx; simp at hx
   | cons y r => rw [hcd] at h10; simp at h10
noncomputable def z1u (L : List zd) (c : Nm) (m : zo) : Bool := !m.abst && (zfb L c m).isNone
noncomputable def z5f (L : List zd) (c : zd) : Bool := c.meths.any (z1u L c.nm)
noncomputable def zej (l : List zd) : Int := if zaq l ≠ 0 then zaq l else if l.any (z5f (wl l)) = true then 7 else 0
theorem zzs {L : List zd} {c : Nm} {m : zo} (ha : m.abst = false) (h : zfb L c m = none) : z1u L c m = true := by simp [z1u, ha, h]
theorem zqb {L : List zd} {c : Nm} {m : zo} {r : Int -> Option FrR} (h : zfb L c m = some r) : z1u L c m = false := by simp [z1u, h]
theorem zzj {L : List zd} {c : Nm} {m : zo} (ha : m.abst = true) : z1u L c m = false := by simp [z1u, ha]
theorem z3c {l : List zal} (h : zj6 l) : 0 < l.length := by
 have := h.last
 cases l with
 | nil => simp [zqs] at this
 | cons x r => simp
theorem zfw {α : Type} {q : α -> Bool} {l : List α} {k : Nat} {x : α} (h : ∀ y ∈ l.take k, q y = false) (hx : l[k]? = some x) (hq : q x = false) : ∀ y ∈ l.take (k + 1), q y = false := by
 intro y hy
 rw [List.take_add_one, hx] at hy
 simp only [Option.toList_some, List.mem_append, List.mem_singleton] at hy
 rcases hy with hy | hy
 . exact h y hy
 . rw [hy]; exact hq
end Go.Proofs.YtbnkckjdgpiggaaGreatDoor
