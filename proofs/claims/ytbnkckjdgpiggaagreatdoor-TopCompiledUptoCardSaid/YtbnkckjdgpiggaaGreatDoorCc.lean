import Derived.Test.YtbnkckjdgpiggaaGreatDoorCx
namespace Go.Proofs.YtbnkckjdgpiggaaGreatDoor
set_option maxRecDepth 100000
set_option maxHeartbeats 16000000
set_option linter.unusedVariables false
set_option linter.unusedSimpArgs false
open Go.RowKit Go.Shelf Go.Lib
theorem z0a {K MB g : Nat} {v : Value} {W W' : World} {T : TypeId} {cs : Array Value} (h : Blk W g T cs) (hk : KbR K MB v W W') (n1 : g ≠ K) (n2 : g ≠ MB) (n3 : v.ownBlock ≠ some g) : Blk W' g T cs := (hk.block g h.lt n1 n2 n3).trans h
theorem znv {L : List zd} {c : Nm} {f g : FrR} (h : zd2 L c f = some g) : g.loc = f.loc := by
 unfold zd2 at h
 split at h
 . cases h
 split at h
 . simp only [Option.some.injEq] at h; subst h; rfl
 . cases h
theorem z2s {w w' W0 : World} {g : Nat} (hg : w.grownBy w' (some g)) {a : Option Addr} {c c0 : Nat} {X X0 : List Nm} (h : zdl w a c X) (h0 : zdl W0 a c0 X0) (hX : X = X0) (hlt : W0.heap.size <= g) : zdl w' a c X := by
 subst hX
 obtain ⟨_, h2 | ⟨b, off, rfl, hl, _⟩⟩ := h0
 . exact ⟨h.1, Or.inl h2⟩
 . exact zcs hg h (fun ad e => by cases e; show b ≠ g; omega)
theorem z7a {r : Option FrR} {p : zf9} {w w' : World} {e : Ending} (h : z4e r p w e w') : ∃ (b : Option Addr) (n1 c1 n2 c2 : Nat) (is : Bool) (a : Option Addr), e = .returned (.tuple #[.agg (slc a n1 c1 b n2 c2), .bool is]) /\ Below w.heap.size w w' /\
   ((is = false /\ r = none) \/ (is = true /\ ∃ g, r = some g /\ n1 = g.loc.length /\ n2 = g.st.length /\ zfg w' g ⟨a, c1, b, c2⟩ /\ a = p.la /\ ∀ ad, b = some ad -> w.heap.size <= ad.block)) := by
 obtain ⟨hb, ⟨h1, rfl⟩ | ⟨g, q, h1, rfl, h2, h3, h4⟩⟩ := h
 . exact ⟨none, 0, 0, 0, 0, false, none, rfl, hb, Or.inl ⟨rfl, h1⟩⟩
 . exact ⟨q.sa, g.loc.length, q.lc, g.st.length, q.sc, true, q.la, rfl, hb, Or.inr ⟨rfl, g, h1, rfl, rfl, h2, h3, h4⟩⟩
theorem z6i {L : List zd} {r : Option FrR} {w w' : World} {e : Ending} (h : z0i L r w e w') : ∃ (a b : Option Addr) (n1 c1 n2 c2 : Nat) (is : Bool), e = .returned (.tuple #[.agg (slc a n1 c1 b n2 c2), .bool is]) /\ Below w.heap.size w w' /\
   ((is = false /\ r = none) \/ (is = true /\ ∃ g, r = some g /\ KOk L g /\ n1 = g.loc.length /\ n2 = g.st.length /\ zfg w' g ⟨a, c1, b, c2⟩ /\ zs5 w.heap.size ⟨a, c1, b, c2⟩)) := by
 obtain ⟨hb, ⟨h1, rfl⟩ | ⟨g, q, h1, hk, rfl, h2, h3, h4⟩⟩ := h
 . exact ⟨none, none, 0, 0, 0, 0, false, rfl, hb, Or.inl ⟨rfl, h1⟩⟩
 . exact ⟨q.la, q.sa, g.loc.length, q.lc, g.st.length, q.sc, true, rfl, hb, Or.inr ⟨rfl, g, h1, hk, rfl, rfl, h2, h3, h4⟩⟩
def z4o (w0 : World) (K MB b : Nat) (m : zo) (p : zaf) (r : Option zcj) (e : Ending) (w' : World) : Prop :=
 Below w0.heap.size w0 w' /\ ((r = none /\ e = .returned (.bool false)) \/ ∃ s' v', r = some s' /\ e = .returned (.bool true) /\ ze8 w' w0.heap.size K MB b m p s' v')
theorem znz (l : List zd) (L : List CP) (w0 : World) (K MB b : Nat) (m : zo) (p : zaf) (c gv : Nm) (s : zcj) (v : Value) (z : Nat) (w : World) (hW : WOk w0 b l L) (hM : zer w0 m p) (hbw : Below w0.heap.size w0 w) (hL : ze8 w w0.heap.size K MB b m p s v)
   (hO : znf (wl l) m.code.length s) (hm : MOk m) (hz : z < m.code.length) (hs : (s.fr z).isSome = true) (hmu : mu (wl l) m.code.length s <= 500000) (hgv : z8l gv) (hc : c.length <= 1048576) (hty : ∀ x ∈ m.code, x.ty.length <= 1048576 /\ OpK x) :
   Calls Tryz.prog 83 #[.pointer (some ⟨K, 0, none⟩), .string ⟨⟨c⟩⟩, .string ⟨⟨gv⟩⟩, .int .i64 z] w (z4o w0 K MB b m p (zly (wl l) (cFn (wl l)) (zb0 (wl l) c gv) m.hs m.code z s)) := by
 obtain ⟨f, hf⟩ := Option.isSome_iff_exists.1 hs
 have hkf := (hO.kok _ _ hf).1
 have hg := hW.good
 have hlen : m.code.length <= 40 := hm.flow.len
 obtain ⟨x, hx⟩ : ∃ x, m.code[z]? = some x := ⟨_, List.getElem?_eq_getElem hz⟩
 have hxi := hm.flow.ins x (List.mem_of_getElem? hx)
 have hxt := hty x (List.mem_of_getElem? hx)
 have HLK := Hq (show zly (wl l) (cFn (wl l)) (zb0 (wl l) c gv) m.hs m.code z s = (hsF (wl l) (cFn (wl l)) z f m.hs s).elim none fun s1 => (zb0 (wl l) c gv x f).elim none fun out => nxF (wl l) out (aft m.code z) s1 by
   unfold zly; rw [hf, hx]; rfl)
 generalize zly (wl l) (cFn (wl l)) (zb0 (wl l) c gv) m.hs m.code z s = R at *
 obtain ⟨n0, F0, hI0, hFr0⟩ := hL.at_ (z : Int)
 rw [hf] at hFr0
 obtain ⟨q, hq1, hq2, hq3⟩ := hFr0
 have hlk := zc7.look_some (P := Tryz.prog) (w := w) (k := 3) (t := 106) (e := 141) Tryz.underlying3 Tryz.underlying106 hI0 (znw z (by omega)) hq1 false
 simp only [Bool.false_eq_true, if_false] at hlk
 obtain ⟨w1, hw1⟩ : ∃ w1, w1 = w.alloc (.cells #[.slice q.la f.loc.length q.lc, .slice q.sa f.st.length q.sc] 141) := ⟨_, rfl⟩
 have hb1 : Below w.heap.size w w1 := by rw [hw1]; exact ze (Below.refl _ _) _
 have hs1 : w1.heap.size = w.heap.size + 1 := by rw [hw1]; simp
 have HT1 := Hq (show Blk w1 w.heap.size 141 #[.slice q.la f.loc.length q.lc, .slice q.sa f.st.length q.sc] by rw [hw1]; exact zg _ _ _ _ rfl)
 have HB1 := Hq (hbw.trans (hb1.mono hbw.size))
 have HL1 := Hq (hL.below hb1)
 have HF1 := Hq (hq2.below hb1)
 have HFAR := Hq hq3
 have c1 := hL.blk.cell 9
 have c2 := hL.klt
 have hKw := hL.klt
 have hMw := hL.mlt
 have HVw := Hq hL.vlt
 have k1 := HL1.out.blk.cell 8
 have k2 := HL1.out.klt
 have HW := Hq hW
 have HM := Hq hM
 have HKF := Hq hkf
 have HMO := Hq hm
 have HG := Hq hg
 have HX := Hq hx
 have HXI := Hq hxi
 have HXT := Hq hxt
 have HC := Hq hc
 have HGV := Hq hgv
 have HSt := Hq (zc6.refl hO)
 have HMU := Hq hmu
 have HHA := Hq hm.hs
 have hhl := hm.hl
 unfold zde at c1 k1
 unfold frV at hlk
 clear hO hkf hxi hxt hty hq1 hq2 hq3 hI0 hW hM hbw hL hm hs hmu hgv hc hf hg hx hb1
 go_enter Tryz.func83, Tryz.ntmps83
 go_upto_region 2 with fail
 rw [<- hw1]
 clear hw1 c1 c2 hlk
 go_wp2_with fail
 clear k1 k2
 go_loopw [30] (fun i wr => ∃ (k : Nat) (s1 : zcj) (v1 : Value), k <= m.hs.length /\ i = .int .i64 k /\ ze8 wr w0.heap.size K MB b m p s1 v1 /\ KbR K MB v w1 wr /\ VUp w1 v v1 /\ zc6 (wl l) m.code.length s s1 /\ Hid (hsF (wl l) (cFn (wl l)) z f m.hs s = hsF (wl l) (cFn (wl l)) z f (m.hs.drop k) s1)) (fun i _ => m.hs.length - (RowKit.intOf i).toNat)
 case atStart => exact ⟨0, s, v, by omega, rfl, HL1.out, .refl _ _ _ _, .refl _ _, HSt.out, Hq (by simp)⟩
 case round =>
   obtain ⟨k, s1, v1, hk, rfl, hLr, hkb, hvu, hst, HHS⟩ := hrel
   have hbr : Below w0.heap.size w1 wr := hkb.to_below HL1.out.bK HL1.out.bM HL1.out.vb (by have := HB1.out.size; omega)
   have HBr := Hq (HB1.out.trans hbr)
   have HLr := Hq hLr
   have HKB := Hq hkb
   have HVU := Hq hvu
   have HSt1 := Hq hst
   have hsr := hkb.size
   have hvw : ∀ g, v.ownBlock = some g -> g < w.heap.size := HVw.out
   have HTr := Hq (z0a HT1.out hkb (by omega) (by omega) (fun e => by have := hvw _ e; omega))
   have HFr := Hq (HFAR.out.keep HF1.out hkb)
   have HFAr := Hq (HFAR.out.up HF1.out hvu)
   have kr1 := hLr.blk.cell 0
   have kr2 := hLr.klt
   have krm := hLr.mlt
   unfold zde at kr1
   clear hLr hkb hvu hst hbr hvw
   by_cases hlk : k < m.hs.length
   . obtain ⟨h, hh⟩ : ∃ h, m.hs[k]? = some h := ⟨_, List.getElem?_eq_getElem hlk⟩
     obtain ⟨bh, off, hpa, hlt, d0, d1, d2, d3⟩ := (HM.out.2.below HBr.out).cells hh
     have HHd := Hq (show m.hs.drop k = h :: m.hs.drop (k + 1) by rw [List.drop_eq_getElem_cons hlk]; congr 1; rw [List.getElem?_eq_getElem hlk] at hh; exact Option.some.inj hh)
     obtain ⟨hp0, hp1, hp2, hp3, hp4, hp5⟩ := HHA.out h (List.mem_of_getElem? hh)
     have hcl := (zdm hp5).2
     rw [hpa] at *
     have hj0 : (0 : Int) <= (k : Int) := Int.natCast_nonneg _
     have hji : (k : Int) < (m.hs.length : Int) := by omega
     obtain ⟨w2, hw2⟩ : ∃ w2, w2 = wr.alloc (.cells #[.int .i64 h.lo, .int .i64 h.hi, .int .i64 h.at_, .string ⟨⟨h.cl⟩⟩] 184) := ⟨_, rfl⟩
     have hb2 : Below wr.heap.size wr w2 := by rw [hw2]; exact ze (Below.refl _ _) _
     have hs2 : w2.heap.size = wr.heap.size + 1 := by rw [hw2]; simp
     have HH2 := Hq (show Blk w2 wr.heap.size 184 #[.int .i64 h.lo, .int .i64 h.hi, .int .i64 h.at_, .string ⟨⟨h.cl⟩⟩] by rw [hw2]; exact zg _ _ _ _ rfl)
     have HB2 := Hq (HBr.out.trans (hb2.mono HBr.out.size))
     have HL2 := Hq (HLr.out.below hb2)
     have HT2 := Hq (HTr.out.below hb2)
     have HF2 := Hq (HFr.out.below hb2)
     have HKB2 := Hq (HKB.out.trans (.of_below hb2) HVU.out)
     have e0 := HH2.out.cell 0
     have e1 := HH2.out.cell 1
     have e2 := HH2.out.lt
     clear hh hp5 hb2
     go_upto_region 5 with fail
     rw [<- hw2]
     clear hw2 d0 d1 d2 d3
     by_cases hin : (z : Int) < h.lo \/ h.hi <= (z : Int)
     . have HS9 := Hq (show hsF (wl l) (cFn (wl l)) z f m.hs s = hsF (wl l) (cFn (wl l)) z f (m.hs.drop (k + 1)) s1 by
         rw [HHS.out, HHd.out]; conv => lhs; unfold hsF
         rw [if_pos hin])
       by_cases hlo : (z : Int) < h.lo
       . clear hin
         go_wp2_with fail
         go_roundw
         case rel => exact ⟨k + 1, s1, v1, by omega, by go_num, HL2.out, HKB2.out, HVU.out, HSt1.out, HS9⟩
         case measure => simp [RowKit.intOf]; omega
       . have hhi : h.hi <= (z : Int) := by omega
         clear hin
         go_wp2_with fail
         go_roundw
         case rel => exact ⟨k + 1, s1, v1, by omega, by go_num, HL2.out, HKB2.out, HVU.out, HSt1.out, HS9⟩
         case measure => simp [RowKit.intOf]; omega
     . have HS8 := Hq (show hsF (wl l) (cFn (wl l)) z f m.hs s = (cFn (wl l) h f).elim none fun g => (ze0 (wl l) s1 h.at_.toNat g).elim none (hsF (wl l) (cFn (wl l)) z f (m.hs.drop (k + 1))) by
         rw [HHS.out, HHd.out]; conv => lhs; unfold hsF
         rw [if_neg hin])
       have hlo : ¬ (z : Int) < h.lo := by omega
       have hhi : ¬ h.hi <= (z : Int) := by omega
       clear hin HHS HHd
       have HCA := Hq (fun W (hw : Below w2.heap.size w2 W) => (zqm l L b h.lo h.hi h.at_ h.cl f q W (HW.out.below (HB2.out.trans (hw.mono HB2.out.size))) (HF2.out.below hw) (by omega)).mono (fun e w' h => z7a h))
       have HSC := Hq (fun W (hw : Below w2.heap.size w2 W) => (show W.cell? ⟨K, 0, none⟩ = some (.map (some b)) /\ W.cell? ⟨wr.heap.size, 0, none⟩ = some (.int .i64 h.lo) /\ W.cell? ⟨wr.heap.size, 1, none⟩ = some (.int .i64 h.hi) /\ W.cell? ⟨wr.heap.size, 2, none⟩ = some (.int .i64 h.at_) /\ W.cell? ⟨wr.heap.size, 3, none⟩ = some (.string ⟨⟨h.cl⟩⟩) /\ W.cell? ⟨w.heap.size, 0, none⟩ = some (.slice q.la f.loc.length q.lc) /\ W.cell? ⟨w.heap.size, 1, none⟩ = some (.slice q.sa f.st.length q.sc) from
         ⟨(HL2.out.below hw).blk.cell 0, (HH2.out.below hw).cell 0, (HH2.out.below hw).cell 1, (HH2.out.below hw).cell 2, (HH2.out.below hw).cell 3, (HT2.out.below hw).cell 0, (HT2.out.below hw).cell 1⟩))
       have HAL := Hq (show Below w2.heap.size w2 (w2.alloc (.cells #[.slice none 0 0, .slice none 0 0] 141)).drew from (ze (Below.refl _ _) _).drew)
       have HZ1 := Hq (show Blk (w2.alloc (.cells #[.slice none 0 0, .slice none 0 0] 141)).drew (wr.heap.size + 1) 141 #[.slice none 0 0, .slice none 0 0] from by have h := zg w2 w2.heap.size 141 #[.slice none 0 0, .slice none 0 0] rfl; rw [hs2] at h; exact h)
       have c3 := HL2.out.klt
       unfold frV at HCA
       go_upto_region 6 with fail
       clear e0 e1
       go_region_held3 (fun W' => W'.cell? ⟨K, 0, none⟩ = some (.map (some b)) /\ W'.cell? ⟨wr.heap.size, 0, none⟩ = some (.int .i64 h.lo) /\ W'.cell? ⟨wr.heap.size, 1, none⟩ = some (.int .i64 h.hi) /\ W'.cell? ⟨wr.heap.size, 2, none⟩ = some (.int .i64 h.at_) /\ W'.cell? ⟨wr.heap.size, 3, none⟩ = some (.string ⟨⟨h.cl⟩⟩) /\ W'.cell? ⟨w.heap.size, 0, none⟩ = some (.slice q.la f.loc.length q.lc) /\ W'.cell? ⟨w.heap.size, 1, none⟩ = some (.slice q.sa f.st.length q.sc))
         (first | exact HSC.out _ (Below.refl _ _) | exact HSC.out _ (Below.refl _ _).drew | exact HSC.out _ HAL.out | exact HSC.out _ (ze (Below.refl _ _) _) | exact HSC.out _ (ze (Below.refl _ _).drew _) | exact HSC.out _ hb5 | exact HSC.out _ hb5.drew | exact HSC.out _ hbA | exact HSC.out _ (ze hbA _))
         ((first
         | (go_at_call 123
            with_reducible refine (HCA.out w2.drew (Below.refl _ _).drew).mono ?_
            rintro e wb ⟨gb, n1, gc1, n2, gc2, is, ga, rfl, hbb, hor⟩
            have hbA := zc (Below.refl w2.heap.size w2).drew hbb
            obtain ⟨w5, hst5, hb5', hk5⟩ := zjn wb ga n1 gc1 gb n2 gc2
            have hb5 := zc hbA hb5'
            have hfa : ∀ g, g.loc = f.loc -> zfg wb g ⟨q.la, gc1, gb, gc2⟩ -> (∀ ad, gb = some ad -> w2.drew.heap.size <= ad.block) -> zfg w5 g ⟨q.la, gc1, gb, gc2⟩ /\ ∀ ad, gb = some ad -> w2.heap.size <= ad.block := fun g _ h hn => ⟨h.below hb5', hn⟩
            have hsb5 : wb.heap.size <= w5.heap.size := hb5'.size
            have ht5 : w2.heap.size <= wb.heap.size := hbA.size
            obtain ⟨T9, hT9⟩ : ∃ T, T = wb.heap.size := ⟨_, rfl⟩)
         | (go_at_call 123
            with_reducible refine (HCA.out (w2.alloc (.cells #[.slice none 0 0, .slice none 0 0] 141)).drew HAL.out).mono ?_
            rintro e wb ⟨gb, n1, gc1, n2, gc2, is, ga, rfl, hbb, hor⟩
            have hbA := zc HAL.out hbb
            obtain ⟨w5, hst5, hg5, hk5⟩ := zjm wb (wr.heap.size + 1) ga n1 gc1 gb n2 gc2 (HZ1.out.below hbb)
            have hb5 := zj hbA hg5 (by omega)
            have hfa : ∀ g, g.loc = f.loc -> zfg wb g ⟨q.la, gc1, gb, gc2⟩ -> (∀ ad, gb = some ad -> (w2.alloc (.cells #[.slice none 0 0, .slice none 0 0] 141)).drew.heap.size <= ad.block) -> zfg w5 g ⟨q.la, gc1, gb, gc2⟩ /\ ∀ ad, gb = some ad -> w2.heap.size <= ad.block := fun g hgl h hn => by
              have e9 : (w2.alloc (.cells #[.slice none 0 0, .slice none 0 0] 141)).drew.heap.size = w2.heap.size + 1 := by show (w2.alloc _).heap.size = _; simp
              rw [e9] at hn
              exact ⟨⟨z2s hg5 h.1 HF2.out.1 hgl (by omega), zcs hg5 h.2 (fun ad e => by have := hn ad e; omega)⟩, fun ad e => by have := hn ad e; omega⟩
            have hsb5 : wb.heap.size <= w5.heap.size := hg5.size
            have ht5 : w2.heap.size <= wr.heap.size + 1 := by omega
            obtain ⟨T9, hT9⟩ : ∃ T, T = wr.heap.size + 1 := ⟨_, rfl⟩)))
       . rw [<- hT9]
         have ht9 : w2.heap.size <= T9 := by omega
         have HK5 := Hq (show Blk w5 T9 141 (slc ga n1 gc1 gb n2 gc2) by rw [hT9]; exact hk5)
         have HB5 := Hq hb5
         have HL5 := Hq (HL2.out.below hb5)
         have HH5 := Hq (HH2.out.below hb5)
         have HFA := Hq hfa
         have HKB5 := Hq (HKB2.out.trans (.of_below hb5) HVU.out)
         have hs5 := hb5.size
         have HB05 := Hq (HB2.out.trans (hb5.mono HB2.out.size))
         clear hT9 hst5 hb5 hk5 hbA hbb hfa c3 e2
         rcases hor with ⟨rfl, hno⟩ | ⟨rfl, g, hcf, rfl, rfl, hga, rfl, hgn⟩
         . have HE := Hq (show R = none by rw [HLK.out, HS8.out]; unfold cFn; rw [hno]; rfl)
           clear hno
           go_wp2_with fail
           go_ret
           exact ⟨HB05.out, Or.inl ⟨HE.out, rfl⟩⟩
         . have hgl := znv hcf
           obtain ⟨hfg, hgn'⟩ := HFA.out g hgl hga hgn
           have hkg : KOk (wl l) g := zjq HKF.out hcf
           have HFG := Hq hfg
           have HFARg := Hq (show zm0 K MB v1 g ⟨q.la, gc1, gb, gc2⟩ from ⟨by have h := HFAr.out.1; unfold zv0 at h |-; dsimp only at h |-; rw [hgl]; exact h, zv0.new (n := w2.heap.size) HL2.out.klt HL2.out.mlt HL2.out.vlt hgn'⟩)
           have hat : ((h.at_.toNat : Nat) : Int) = h.at_ := by omega
           have hatl : h.at_.toNat < m.code.length := by omega
           have HME := Hq (zhh l L w0.heap.size K MB b m p s1 v1 h.at_.toNat g ⟨q.la, gc1, gb, gc2⟩ m.code.length w5 (HW.out.below HB05.out) HL5.out HSt1.out.ok (by omega) HFG.out HFARg.out hkg (by have := HSt1.out.mu; have := HMU.out; omega))
           rw [hat] at HME
           unfold frV at HME
           have HMS := Hq (fun s2 (hm : ze0 (wl l) s1 h.at_.toNat g = some s2) => zjx HG.out HSt1.out.ok hatl hkg hm)
           have HCF := Hq hcf
           have x0 := HK5.out.cell 0
           have x1 := HK5.out.cell 1
           have x2 := HK5.out.lt
           have y2 := HH5.out.cell 2
           have y3 := HH5.out.lt
           unfold slc at x0 x1
           clear hcf hga hgn hgl hfg hgn' hkg hat HCA HSC HAL HZ1 HFA
           go_wp2_with fail
           refine HME.out.mono ?_
           rintro e w7 ⟨hb7, hkb7, ⟨hno, rfl⟩ | ⟨s2, v2, hm2, rfl, hl2, hv2⟩⟩
           . have HE := Hq (show R = none by rw [HLK.out, HS8.out]; unfold cFn; rw [HCF.out]; simp only [Option.elim_some]; rw [hno]; rfl)
             have HB7 := Hq (HB05.out.trans hb7)
             clear hno hb7 hkb7
             go_wp2_with fail
             go_ret
             exact ⟨HB7.out, Or.inl ⟨HE.out, rfl⟩⟩
           . have HS9 := Hq (show hsF (wl l) (cFn (wl l)) z f m.hs s = hsF (wl l) (cFn (wl l)) z f (m.hs.drop (k + 1)) s2 by rw [HS8.out, show cFn (wl l) h f = some g from HCF.out]; simp only [Option.elim_some]; rw [hm2]; rfl)
             have HL7 := Hq hl2
             have HKB7 := Hq (HKB5.out.trans hkb7 HVU.out)
             have HVU7 := Hq (HVU.out.trans hv2 HKB5.out.size)
             have HSt7 := Hq (HSt1.out.trans (HMS.out s2 hm2))
             clear hb7 hkb7 hm2 hl2 hv2
             go_wp2_with fail
             go_roundw
             case rel => exact ⟨k + 1, s2, v2, by omega, by go_num, HL7.out, HKB7.out, HVU7.out, HSt7.out, HS9⟩
             case measure => simp [RowKit.intOf]; omega
       . rw [<- hT9]
         have ht9 : w2.heap.size <= T9 := by omega
         have HK5 := Hq (show Blk w5 T9 141 (slc ga n1 gc1 gb n2 gc2) by rw [hT9]; exact hk5)
         have HB5 := Hq hb5
         have HL5 := Hq (HL2.out.below hb5)
         have HH5 := Hq (HH2.out.below hb5)
         have HFA := Hq hfa
         have HKB5 := Hq (HKB2.out.trans (.of_below hb5) HVU.out)
         have hs5 := hb5.size
         have HB05 := Hq (HB2.out.trans (hb5.mono HB2.out.size))
         clear hT9 hst5 hb5 hk5 hbA hbb hfa c3 e2
         rcases hor with ⟨rfl, hno⟩ | ⟨rfl, g, hcf, rfl, rfl, hga, rfl, hgn⟩
         . have HE := Hq (show R = none by rw [HLK.out, HS8.out]; unfold cFn; rw [hno]; rfl)
           clear hno
           go_wp2_with fail
           go_ret
           exact ⟨HB05.out, Or.inl ⟨HE.out, rfl⟩⟩
         . have hgl := znv hcf
           obtain ⟨hfg, hgn'⟩ := HFA.out g hgl hga hgn
           have hkg : KOk (wl l) g := zjq HKF.out hcf
           have HFG := Hq hfg
           have HFARg := Hq (show zm0 K MB v1 g ⟨q.la, gc1, gb, gc2⟩ from ⟨by have h := HFAr.out.1; unfold zv0 at h |-; dsimp only at h |-; rw [hgl]; exact h, zv0.new (n := w2.heap.size) HL2.out.klt HL2.out.mlt HL2.out.vlt hgn'⟩)
           have hat : ((h.at_.toNat : Nat) : Int) = h.at_ := by omega
           have hatl : h.at_.toNat < m.code.length := by omega
           have HME := Hq (zhh l L w0.heap.size K MB b m p s1 v1 h.at_.toNat g ⟨q.la, gc1, gb, gc2⟩ m.code.length w5 (HW.out.below HB05.out) HL5.out HSt1.out.ok (by omega) HFG.out HFARg.out hkg (by have := HSt1.out.mu; have := HMU.out; omega))
           rw [hat] at HME
           unfold frV at HME
           have HMS := Hq (fun s2 (hm : ze0 (wl l) s1 h.at_.toNat g = some s2) => zjx HG.out HSt1.out.ok hatl hkg hm)
           have HCF := Hq hcf
           have x0 := HK5.out.cell 0
           have x1 := HK5.out.cell 1
           have x2 := HK5.out.lt
           have y2 := HH5.out.cell 2
           have y3 := HH5.out.lt
           unfold slc at x0 x1
           clear hcf hga hgn hgl hfg hgn' hkg hat HCA HSC HAL HZ1 HFA
           go_wp2_with fail
           refine HME.out.mono ?_
           rintro e w7 ⟨hb7, hkb7, ⟨hno, rfl⟩ | ⟨s2, v2, hm2, rfl, hl2, hv2⟩⟩
           . have HE := Hq (show R = none by rw [HLK.out, HS8.out]; unfold cFn; rw [HCF.out]; simp only [Option.elim_some]; rw [hno]; rfl)
             have HB7 := Hq (HB05.out.trans hb7)
             clear hno hb7 hkb7
             go_wp2_with fail
             go_ret
             exact ⟨HB7.out, Or.inl ⟨HE.out, rfl⟩⟩
           . have HS9 := Hq (show hsF (wl l) (cFn (wl l)) z f m.hs s = hsF (wl l) (cFn (wl l)) z f (m.hs.drop (k + 1)) s2 by rw [HS8.out, show cFn (wl l) h f = some g from HCF.out]; simp only [Option.elim_some]; rw [hm2]; rfl)
             have HL7 := Hq hl2
             have HKB7 := Hq (HKB5.out.trans hkb7 HVU.out)
             have HVU7 := Hq (HVU.out.trans hv2 HKB5.out.size)
             have HSt7 := Hq (HSt1.out.trans (HMS.out s2 hm2))
             clear hb7 hkb7 hm2 hl2 hv2
             go_wp2_with fail
             go_roundw
             case rel => exact ⟨k + 1, s2, v2, by omega, by go_num, HL7.out, HKB7.out, HVU7.out, HSt7.out, HS9⟩
             case measure => simp [RowKit.intOf]; omega
   . obtain rfl : k = m.hs.length := by omega
     have HS9 := Hq (show hsF (wl l) (cFn (wl l)) z f m.hs s = some s1 by rw [HHS.out, List.drop_length]; rfl)
     have HLK2 := Hq (show R = (zb0 (wl l) c gv x f).elim none fun out => nxF (wl l) out (aft m.code z) s1 by rw [HLK.out, HS9.out]; rfl)
     obtain ⟨bc, offc, hca, hlc, d0, d1, d2, d3, d4, d5⟩ := (HM.out.1.below HBr.out).cells HX.out
     have HAT := Hq (fun W (hw : Below wr.heap.size wr W) => Go.Proofs.YtbnkckjdgpiggaaGreatDoor.after_calls m.code p.ca p.cc z W ((HM.out.1.below HBr.out).below hw) HMO.out.flow hz)
     have HAF := Hq (fun W (hw : Below wr.heap.size wr W) => (zqz l L b c gv x f q W (HW.out.below (HBr.out.trans (hw.mono HBr.out.size))) (HFr.out.below hw) HKF.out HXI.out HGV.out HC.out HXT.out).mono (fun e w' h => z6i h))
     have k7 := HLr.out.blk.cell 7
     unfold zde at k7
     rw [hca] at k7 HAT
     have HSC := Hq (fun W (hw : Below wr.heap.size wr W) => (show W.cell? ⟨K, 0, none⟩ = some (.map (some b)) /\ W.cell? ⟨K, 7, none⟩ = some (.slice (some ⟨bc, offc, none⟩) m.code.length p.cc) /\ W.cell? ⟨bc, offc + z * 6, none⟩ = some (.int .i64 x.op) /\ W.cell? ⟨bc, offc + z * 6 + 1, none⟩ = some (.int .i64 x.a) /\ W.cell? ⟨bc, offc + z * 6 + 2, none⟩ = some (.int .i64 x.b) /\ W.cell? ⟨bc, offc + z * 6 + 3, none⟩ = some (.string ⟨⟨x.ty⟩⟩) /\ W.cell? ⟨bc, offc + z * 6 + 4, none⟩ = some (.string ⟨⟨x.cl⟩⟩) /\ W.cell? ⟨bc, offc + z * 6 + 5, none⟩ = some (.string ⟨⟨x.nm⟩⟩) /\ W.cell? ⟨w.heap.size, 0, none⟩ = some (.slice q.la f.loc.length q.lc) /\ W.cell? ⟨w.heap.size, 1, none⟩ = some (.slice q.sa f.st.length q.sc) from by
       have hk := (HLr.out.below hw).blk.cell 7
       unfold zde at hk
       rw [hca] at hk
       exact ⟨(HLr.out.below hw).blk.cell 0, hk, (hw.cell (p := ⟨bc, offc + z * 6, none⟩) hlc).trans d0, (hw.cell (p := ⟨bc, offc + z * 6 + 1, none⟩) hlc).trans d1, (hw.cell (p := ⟨bc, offc + z * 6 + 2, none⟩) hlc).trans d2, (hw.cell (p := ⟨bc, offc + z * 6 + 3, none⟩) hlc).trans d3, (hw.cell (p := ⟨bc, offc + z * 6 + 4, none⟩) hlc).trans d4, (hw.cell (p := ⟨bc, offc + z * 6 + 5, none⟩) hlc).trans d5, (HTr.out.below hw).cell 0, (HTr.out.below hw).cell 1⟩))
     have HAL := Hq (show Below wr.heap.size wr (wr.alloc (.cells #[.slice none 0 0, .slice none 0 0] 141)).drew from (ze (Below.refl _ _) _).drew)
     have HZ1 := Hq (show Blk (wr.alloc (.cells #[.slice none 0 0, .slice none 0 0] 141)).drew wr.heap.size 141 #[.slice none 0 0, .slice none 0 0] from zg _ _ _ _ rfl)
     have hz0 : (0 : Int) <= (z : Int) := Int.natCast_nonneg _
     have hzl : (z : Int) < (m.code.length : Int) := by omega
     unfold frV zfe at HAF
     go_upto_region 10 with fail
     clear HHS HS9
     go_region_held3 (fun W' => W'.cell? ⟨K, 0, none⟩ = some (.map (some b)) /\ W'.cell? ⟨K, 7, none⟩ = some (.slice (some ⟨bc, offc, none⟩) m.code.length p.cc) /\ W'.cell? ⟨bc, offc + z * 6, none⟩ = some (.int .i64 x.op) /\ W'.cell? ⟨bc, offc + z * 6 + 1, none⟩ = some (.int .i64 x.a) /\ W'.cell? ⟨bc, offc + z * 6 + 2, none⟩ = some (.int .i64 x.b) /\ W'.cell? ⟨bc, offc + z * 6 + 3, none⟩ = some (.string ⟨⟨x.ty⟩⟩) /\ W'.cell? ⟨bc, offc + z * 6 + 4, none⟩ = some (.string ⟨⟨x.cl⟩⟩) /\ W'.cell? ⟨bc, offc + z * 6 + 5, none⟩ = some (.string ⟨⟨x.nm⟩⟩) /\ W'.cell? ⟨w.heap.size, 0, none⟩ = some (.slice q.la f.loc.length q.lc) /\ W'.cell? ⟨w.heap.size, 1, none⟩ = some (.slice q.sa f.st.length q.sc))
       (first | exact HSC.out _ (Below.refl _ _) | exact HSC.out _ (Below.refl _ _).drew | exact HSC.out _ HAL.out | exact HSC.out _ (ze (Below.refl _ _) _) | exact HSC.out _ (ze (Below.refl _ _).drew _) | exact HSC.out _ hb5 | exact HSC.out _ hb5.drew | exact HSC.out _ hbA | exact HSC.out _ (ze hbA _))
       ((first
       | (go_at_call 124
          with_reducible refine (HAF.out wr.drew (Below.refl _ _).drew).mono ?_
          rintro e wb ⟨ga, gb, n1, gc1, n2, gc2, is, rfl, hbb, hor⟩
          have hbA := zc (Below.refl wr.heap.size wr).drew hbb
          obtain ⟨w5, hst5, hb5', hk5⟩ := zjn wb ga n1 gc1 gb n2 gc2
          have hb5 := zc hbA hb5'
          have hfa : ∀ g, zfg wb g ⟨ga, gc1, gb, gc2⟩ -> zs5 wr.drew.heap.size ⟨ga, gc1, gb, gc2⟩ -> zfg w5 g ⟨ga, gc1, gb, gc2⟩ /\ zs5 wr.heap.size ⟨ga, gc1, gb, gc2⟩ := fun g h hn => ⟨h.below hb5', hn⟩
          have hsb5 : wb.heap.size <= w5.heap.size := hb5'.size
          have ht5 : wr.heap.size <= wb.heap.size := hbA.size
          obtain ⟨T9, hT9⟩ : ∃ T, T = wb.heap.size := ⟨_, rfl⟩)
       | (go_at_call 124
          with_reducible refine (HAF.out (wr.alloc (.cells #[.slice none 0 0, .slice none 0 0] 141)).drew HAL.out).mono ?_
          rintro e wb ⟨ga, gb, n1, gc1, n2, gc2, is, rfl, hbb, hor⟩
          have hbA := zc HAL.out hbb
          obtain ⟨w5, hst5, hg5, hk5⟩ := zjm wb wr.heap.size ga n1 gc1 gb n2 gc2 (HZ1.out.below hbb)
          have hb5 := zj hbA hg5 (Nat.le_refl _)
          have hfa : ∀ g, zfg wb g ⟨ga, gc1, gb, gc2⟩ -> zs5 (wr.alloc (.cells #[.slice none 0 0, .slice none 0 0] 141)).drew.heap.size ⟨ga, gc1, gb, gc2⟩ -> zfg w5 g ⟨ga, gc1, gb, gc2⟩ /\ zs5 wr.heap.size ⟨ga, gc1, gb, gc2⟩ := fun g h hn => by
            have e9 : (wr.alloc (.cells #[.slice none 0 0, .slice none 0 0] 141)).drew.heap.size = wr.heap.size + 1 := by show (wr.alloc _).heap.size = _; simp
            rw [e9] at hn
            exact ⟨⟨zcs hg5 h.1 (fun ad e => by have := hn.1 ad e; omega), zcs hg5 h.2 (fun ad e => by have := hn.2 ad e; omega)⟩, ⟨fun ad e => by have := hn.1 ad e; omega, fun ad e => by have := hn.2 ad e; omega⟩⟩
          have hsb5 : wb.heap.size <= w5.heap.size := hg5.size
          have ht5 : wr.heap.size <= wr.heap.size := Nat.le_refl _
          obtain ⟨T9, hT9⟩ : ∃ T, T = wr.heap.size := ⟨_, rfl⟩)))
     . rw [<- hT9]
       have ht9 : wr.heap.size <= T9 := by omega
       have HK5 := Hq (show Blk w5 T9 141 (slc ga n1 gc1 gb n2 gc2) by rw [hT9]; exact hk5)
       have HB5 := Hq hb5
       have HL5 := Hq (HLr.out.below hb5)
       have HFA := Hq hfa
       have hs5 := hb5.size
       have HB05 := Hq (HBr.out.trans (hb5.mono HBr.out.size))
       clear hT9 hst5 hb5 hk5 hbA hbb hfa kr1 d0 d1 d2 d3 d4 d5 k7
       rcases hor with ⟨rfl, hno⟩ | ⟨rfl, g, haf, hkg, rfl, rfl, hga, hgn⟩
       . have HE := Hq (show R = none by rw [HLK2.out, hno]; rfl)
         clear hno
         go_wp2_with fail
         go_ret
         exact ⟨HB05.out, Or.inl ⟨HE.out, rfl⟩⟩
       . obtain ⟨hfg, hgn'⟩ := HFA.out g hga hgn
         have HKG := Hq hkg
         have HR := Hq (show R = nxF (wl l) g (aft m.code z) s1 by rw [HLK2.out, haf]; rfl)
         have k7 := HL5.out.blk.cell 7
         have k8 := HL5.out.klt
         unfold zde at k7
         rw [hca] at k7
         have HFG := Hq hfg
         have HFN := Hq hgn'
         clear hkg haf hga hgn hfg hgn' HAF HSC HAL HZ1 HFA
         go_wp2_with fail
         refine (HAT.out w5 HB5.out).mono ?_
         rintro e w6 ⟨v2, rfl, ho6, hb6⟩
         obtain ⟨A6, C6, rfl, hle6⟩ := zy ho6
         have hal := zzp m.code z
         have HA8 := Hq (fun j (hj : j ∈ aft m.code z) => zxs HMO.out.flow hz hj)
         have HL6 := Hq (HL5.out.below hb6)
         have HK6 := Hq (HK5.out.below hb6)
         have HFG6 := Hq (HFG.out.below hb6)
         have HO6 := Hq ho6
         have HB06 := Hq (HB05.out.trans (hb6.mono HB05.out.size))
         have hs6 := hb6.size
         have hT5 := HK5.out.lt
         have HFAR6 := Hq (show zm0 K MB v1 g ⟨ga, gc1, gb, gc2⟩ from zm0.new (n := wr.heap.size) HLr.out.klt HLr.out.mlt HLr.out.vlt HFN.out)
         have hvr := HLr.out.vlt
         have HVR := Hq hvr
         clear ho6 hb6 k7 k8 hvr
         go_wp2_with fail
         go_loopw [94] (fun i wx => ∃ (j : Nat) (s2 : zcj) (v2 : Value), j <= (aft m.code z).length /\ i = .int .i64 j /\ ze8 wx w0.heap.size K MB b m p s2 v2 /\ KbR K MB v1 w6 wx /\ VUp w6 v1 v2 /\ zc6 (wl l) m.code.length s1 s2 /\ Hid (nxF (wl l) g (aft m.code z) s1 = nxF (wl l) g ((aft m.code z).drop j) s2)) (fun i _ => (aft m.code z).length - (RowKit.intOf i).toNat)
         case atStart => exact ⟨0, s1, v1, by omega, rfl, HL6.out, .refl _ _ _ _, .refl _ _, zc6.refl HSt1.out.ok, Hq (by simp)⟩
         case round =>
           obtain ⟨j, s2, v2, hj, rfl, hLx, hkx, hvx, hstx, HNX⟩ := hrel
           have hbx : Below w0.heap.size w6 wr := hkx.to_below HL6.out.bK HL6.out.bM HL6.out.vb (by have := HB06.out.size; omega)
           have HBx := Hq (HB06.out.trans hbx)
           have HLx := Hq hLx
           have HKx := Hq hkx
           have HVx := Hq hvx
           have HStx := Hq hstx
           have hsx := hkx.size
           have hKr := HLr.out.klt
           have hMr := HLr.out.mlt
           have HTx := Hq (z0a HK6.out hkx (by omega) (by omega) (fun e => by have := HVR.out _ e; omega))
           have HOx := Hq (zdg HO6.out (fun y hy => hkx.block y (HO6.out.lt y hy).2 (by have := (HO6.out.lt y hy).1; omega) (by have := (HO6.out.lt y hy).1; omega) (fun e => by have := (HO6.out.lt y hy).1; have := HVR.out _ e; omega)))
           have HFx := Hq (HFAR6.out.keep HFG6.out hkx)
           have HFAx := Hq (HFAR6.out.up HFG6.out hvx)
           clear hLx hkx hvx hstx hbx
           by_cases hlj : j < (aft m.code z).length
           . obtain ⟨y, hy⟩ : ∃ y, (aft m.code z)[j]? = some y := ⟨_, List.getElem?_eq_getElem hlj⟩
             obtain ⟨G6, hA6, hG6, _, cy, _, _⟩ := zgo HOx.out (j := j) (u := zi6 y) (by rw [List.getElem?_map, hy]; rfl)
             have hyl := HA8.out y (List.mem_of_getElem? hy)
             have HDr := Hq (show (aft m.code z).drop j = y :: (aft m.code z).drop (j + 1) by rw [List.drop_eq_getElem_cons hlj]; congr 1; rw [List.getElem?_eq_getElem hlj] at hy; exact Option.some.inj hy)
             have HNX2 := Hq (show nxF (wl l) g (aft m.code z) s1 = (ze0 (wl l) s2 y g).elim none (nxF (wl l) g ((aft m.code z).drop (j + 1))) by
               rw [HNX.out, HDr.out]; conv => lhs; unfold nxF)
             have HME := Hq (zhh l L w0.heap.size K MB b m p s2 v2 y g ⟨ga, gc1, gb, gc2⟩ m.code.length wr (HW.out.below HBx.out) HLx.out HStx.out.ok (by omega) HFx.out HFAx.out HKG.out (by have := HStx.out.mu; have := HSt1.out.mu; have := HMU.out; omega))
             have HMS := Hq (fun s3 (hm : ze0 (wl l) s2 y g = some s3) => zjx HG.out HStx.out.ok hyl HKG.out hm)
             unfold frV at HME
             have x0 := HTx.out.cell 0
             have x1 := HTx.out.cell 1
             have x2 := HTx.out.lt
             unfold slc at x0 x1
             have hj0 : (0 : Int) <= (j : Int) := Int.natCast_nonneg _
             have hji : (j : Int) < ((aft m.code z).length : Int) := by omega
             subst hA6
             clear hy HNX HDr
             go_wp2_with fail
             refine HME.out.mono ?_
             rintro e w7 ⟨hb7, hkb7, ⟨hno, rfl⟩ | ⟨s3, v3, hm3, rfl, hl3, hv3⟩⟩
             . have HE := Hq (show R = none by rw [HR.out, HNX2.out, hno]; rfl)
               have HB7 := Hq (HBx.out.trans hb7)
               clear hno hb7 hkb7
               go_wp2_with fail
               go_ret
               exact ⟨HB7.out, Or.inl ⟨HE.out, rfl⟩⟩
             . have HS9 := Hq (show nxF (wl l) g (aft m.code z) s1 = nxF (wl l) g ((aft m.code z).drop (j + 1)) s3 by rw [HNX2.out, hm3]; rfl)
               have HL7 := Hq hl3
               have HKB7 := Hq (HKx.out.trans hkb7 HVx.out)
               have HVU7 := Hq (HVx.out.trans hv3 HKx.out.size)
               have HSt7 := Hq (HStx.out.trans (HMS.out s3 hm3))
               clear hb7 hkb7 hm3 hl3 hv3
               go_wp2_with fail
               go_roundw
               case rel => exact ⟨j + 1, s3, v3, by omega, by go_num, HL7.out, HKB7.out, HVU7.out, HSt7.out, HS9⟩
               case measure => simp [RowKit.intOf]; omega
           . obtain rfl : j = (aft m.code z).length := by omega
             have HE := Hq (show R = some s2 by rw [HR.out, HNX.out, List.drop_length]; rfl)
             go_wp2_with fail
             go_ret
             exact ⟨HBx.out, Or.inr ⟨s2, v2, HE.out, rfl, HLx.out⟩⟩
     . rw [<- hT9]
       have ht9 : wr.heap.size <= T9 := by omega
       have HK5 := Hq (show Blk w5 T9 141 (slc ga n1 gc1 gb n2 gc2) by rw [hT9]; exact hk5)
       have HB5 := Hq hb5
       have HL5 := Hq (HLr.out.below hb5)
       have HFA := Hq hfa
       have hs5 := hb5.size
       have HB05 := Hq (HBr.out.trans (hb5.mono HBr.out.size))
       clear hT9 hst5 hb5 hk5 hbA hbb hfa kr1 d0 d1 d2 d3 d4 d5 k7
       rcases hor with ⟨rfl, hno⟩ | ⟨rfl, g, haf, hkg, rfl, rfl, hga, hgn⟩
       . have HE := Hq (show R = none by rw [HLK2.out, hno]; rfl)
         clear hno
         go_wp2_with fail
         go_ret
         exact ⟨HB05.out, Or.inl ⟨HE.out, rfl⟩⟩
       . obtain ⟨hfg, hgn'⟩ := HFA.out g hga hgn
         have HKG := Hq hkg
         have HR := Hq (show R = nxF (wl l) g (aft m.code z) s1 by rw [HLK2.out, haf]; rfl)
         have k7 := HL5.out.blk.cell 7
         have k8 := HL5.out.klt
         unfold zde at k7
         rw [hca] at k7
         have HFG := Hq hfg
         have HFN := Hq hgn'
         clear hkg haf hga hgn hfg hgn' HAF HSC HAL HZ1 HFA
         go_wp2_with fail
         refine (HAT.out w5 HB5.out).mono ?_
         rintro e w6 ⟨v2, rfl, ho6, hb6⟩
         obtain ⟨A6, C6, rfl, hle6⟩ := zy ho6
         have hal := zzp m.code z
         have HA8 := Hq (fun j (hj : j ∈ aft m.code z) => zxs HMO.out.flow hz hj)
         have HL6 := Hq (HL5.out.below hb6)
         have HK6 := Hq (HK5.out.below hb6)
         have HFG6 := Hq (HFG.out.below hb6)
         have HO6 := Hq ho6
         have HB06 := Hq (HB05.out.trans (hb6.mono HB05.out.size))
         have hs6 := hb6.size
         have hT5 := HK5.out.lt
         have HFAR6 := Hq (show zm0 K MB v1 g ⟨ga, gc1, gb, gc2⟩ from zm0.new (n := wr.heap.size) HLr.out.klt HLr.out.mlt HLr.out.vlt HFN.out)
         have hvr := HLr.out.vlt
         have HVR := Hq hvr
         clear ho6 hb6 k7 k8 hvr
         go_wp2_with fail
         go_loopw [94] (fun i wx => ∃ (j : Nat) (s2 : zcj) (v2 : Value), j <= (aft m.code z).length /\ i = .int .i64 j /\ ze8 wx w0.heap.size K MB b m p s2 v2 /\ KbR K MB v1 w6 wx /\ VUp w6 v1 v2 /\ zc6 (wl l) m.code.length s1 s2 /\ Hid (nxF (wl l) g (aft m.code z) s1 = nxF (wl l) g ((aft m.code z).drop j) s2)) (fun i _ => (aft m.code z).length - (RowKit.intOf i).toNat)
         case atStart => exact ⟨0, s1, v1, by omega, rfl, HL6.out, .refl _ _ _ _, .refl _ _, zc6.refl HSt1.out.ok, Hq (by simp)⟩
         case round =>
           obtain ⟨j, s2, v2, hj, rfl, hLx, hkx, hvx, hstx, HNX⟩ := hrel
           have hbx : Below w0.heap.size w6 wr := hkx.to_below HL6.out.bK HL6.out.bM HL6.out.vb (by have := HB06.out.size; omega)
           have HBx := Hq (HB06.out.trans hbx)
           have HLx := Hq hLx
           have HKx := Hq hkx
           have HVx := Hq hvx
           have HStx := Hq hstx
           have hsx := hkx.size
           have hKr := HLr.out.klt
           have hMr := HLr.out.mlt
           have HTx := Hq (z0a HK6.out hkx (by omega) (by omega) (fun e => by have := HVR.out _ e; omega))
           have HOx := Hq (zdg HO6.out (fun y hy => hkx.block y (HO6.out.lt y hy).2 (by have := (HO6.out.lt y hy).1; omega) (by have := (HO6.out.lt y hy).1; omega) (fun e => by have := (HO6.out.lt y hy).1; have := HVR.out _ e; omega)))
           have HFx := Hq (HFAR6.out.keep HFG6.out hkx)
           have HFAx := Hq (HFAR6.out.up HFG6.out hvx)
           clear hLx hkx hvx hstx hbx
           by_cases hlj : j < (aft m.code z).length
           . obtain ⟨y, hy⟩ : ∃ y, (aft m.code z)[j]? = some y := ⟨_, List.getElem?_eq_getElem hlj⟩
             obtain ⟨G6, hA6, hG6, _, cy, _, _⟩ := zgo HOx.out (j := j) (u := zi6 y) (by rw [List.getElem?_map, hy]; rfl)
             have hyl := HA8.out y (List.mem_of_getElem? hy)
             have HDr := Hq (show (aft m.code z).drop j = y :: (aft m.code z).drop (j + 1) by rw [List.drop_eq_getElem_cons hlj]; congr 1; rw [List.getElem?_eq_getElem hlj] at hy; exact Option.some.inj hy)
             have HNX2 := Hq (show nxF (wl l) g (aft m.code z) s1 = (ze0 (wl l) s2 y g).elim none (nxF (wl l) g ((aft m.code z).drop (j + 1))) by
               rw [HNX.out, HDr.out]; conv => lhs; unfold nxF)
             have HME := Hq (zhh l L w0.heap.size K MB b m p s2 v2 y g ⟨ga, gc1, gb, gc2⟩ m.code.length wr (HW.out.below HBx.out) HLx.out HStx.out.ok (by omega) HFx.out HFAx.out HKG.out (by have := HStx.out.mu; have := HSt1.out.mu; have := HMU.out; omega))
             have HMS := Hq (fun s3 (hm : ze0 (wl l) s2 y g = some s3) => zjx HG.out HStx.out.ok hyl HKG.out hm)
             unfold frV at HME
             have x0 := HTx.out.cell 0
             have x1 := HTx.out.cell 1
             have x2 := HTx.out.lt
             unfold slc at x0 x1
             have hj0 : (0 : Int) <= (j : Int) := Int.natCast_nonneg _
             have hji : (j : Int) < ((aft m.code z).length : Int) := by omega
             subst hA6
             clear hy HNX HDr
             go_wp2_with fail
             refine HME.out.mono ?_
             rintro e w7 ⟨hb7, hkb7, ⟨hno, rfl⟩ | ⟨s3, v3, hm3, rfl, hl3, hv3⟩⟩
             . have HE := Hq (show R = none by rw [HR.out, HNX2.out, hno]; rfl)
               have HB7 := Hq (HBx.out.trans hb7)
               clear hno hb7 hkb7
               go_wp2_with fail
               go_ret
               exact ⟨HB7.out, Or.inl ⟨HE.out, rfl⟩⟩
             . have HS9 := Hq (show nxF (wl l) g (aft m.code z) s1 = nxF (wl l) g ((aft m.code z).drop (j + 1)) s3 by rw [HNX2.out, hm3]; rfl)
               have HL7 := Hq hl3
               have HKB7 := Hq (HKx.out.trans hkb7 HVx.out)
               have HVU7 := Hq (HVx.out.trans hv3 HKx.out.size)
               have HSt7 := Hq (HStx.out.trans (HMS.out s3 hm3))
               clear hb7 hkb7 hm3 hl3 hv3
               go_wp2_with fail
               go_roundw
               case rel => exact ⟨j + 1, s3, v3, by omega, by go_num, HL7.out, HKB7.out, HVU7.out, HSt7.out, HS9⟩
               case measure => simp [RowKit.intOf]; omega
           . obtain rfl : j = (aft m.code z).length := by omega
             have HE := Hq (show R = some s2 by rw [HR.out, HNX.out, List.drop_length]; rfl)
             go_wp2_with fail
             go_ret
             exact ⟨HBx.out, Or.inr ⟨s2, v2, HE.out, rfl, HLx.out⟩⟩
end Go.Proofs.YtbnkckjdgpiggaaGreatDoor
