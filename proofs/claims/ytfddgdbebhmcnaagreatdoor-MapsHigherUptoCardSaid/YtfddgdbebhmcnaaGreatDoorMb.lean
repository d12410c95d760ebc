/-
  The walks of the walker's caught, of its literal, of slices.IndexFunc and ContainsFunc at it.
-/
import Derived.Test.YtfddgdbebhmcnaaGreatDoorMa
namespace Go.Proofs.YtfddgdbebhmcnaaGreatDoor
set_option linter.unusedVariables false
set_option linter.unusedSimpArgs false
open Go.RowKit Go.Shelf Go.Lib
def handV (h : HandR) : Value := .agg #[.int .i64 h.lo, .int .i64 h.hi, .int .i64 h.at_, .string ⟨⟨h.cl⟩⟩]
noncomputable def badB (L : List ClassR) (M : Int → Option FrR) (z : Nat) (f : FrR) (h : HandR) : Bool := !((decide ((z : Int) < h.lo) || decide (h.hi ≤ (z : Int))) || (cFn L h f).elim false fun g => meetsB L M h.at_ g)
theorem capB_any (L : List ClassR) (hs : List HandR) (M : Int → Option FrR) (z : Nat) (f : FrR) : capB L (cFn L) hs M z f = !hs.any (badB L M z f) := by
  unfold capB
  induction hs with
  | nil => rfl
  | cons x r ih => rw [List.all_cons, List.any_cons, ih]; unfold badB; simp
theorem badB_skip {L : List ClassR} {M : Int → Option FrR} {z : Nat} {f : FrR} {h : HandR} (hin : (z : Int) < h.lo ∨ h.hi ≤ (z : Int)) : badB L M z f h = false := by
  unfold badB
  rcases hin with e | e
  · rw [decide_eq_true e]; simp
  · rw [decide_eq_true e]; simp
theorem badB_in {L : List ClassR} {M : Int → Option FrR} {z : Nat} {f : FrR} {h : HandR} (h1 : ¬ (z : Int) < h.lo) (h2 : ¬ h.hi ≤ (z : Int)) : badB L M z f h = !((cFn L h f).elim false fun g => meetsB L M h.at_ g) := by
  unfold badB; rw [decide_eq_false h1, decide_eq_false h2]; simp
set_option maxRecDepth 100000 in
set_option maxHeartbeats 16000000 in
theorem lit_calls (l : List ClassR) (LC : List CP) (K MB b ba bk bf : Nat) (m : MethR) (p : MAddr) (M : Int → Option FrR) (z : Nat) (f : FrR) (q : FAddr) (h : HandR) (w : World) (hW : WOk w b l LC) (hL : WkAt w K MB b m p M) (ha : Blk w ba 3 #[.int .i64 z]) (hk : Blk w bk 117 #[.pointer (some ⟨K, 0, none⟩)]) (hbf : Blk w bf 60 #[.slice q.la f.loc.length q.lc, .slice q.sa f.st.length q.sc])
    (hf : FrAt w f q) (hkf : KOk (wl l) f) (hM : ∀ z g, M z = some g → KOk (wl l) g) (hat : 0 ≤ h.at_ ∧ h.at_ ≤ 1000) (hcl : h.cl.length ≤ 1000) :
    Calls Tryz.prog 157 #[handV h, .pointer (some ⟨ba, 0, none⟩), .pointer (some ⟨bk, 0, none⟩), .pointer (some ⟨bf, 0, none⟩)] w fun e w' => e = .returned (.bool (badB (wl l) M z f h)) ∧ Below w.heap.size w w' := by
  obtain ⟨w2, hw2⟩ : ∃ w2, w2 = w.alloc (.cells #[.int .i64 h.lo, .int .i64 h.hi, .int .i64 h.at_, .string ⟨⟨h.cl⟩⟩] 74) := ⟨_, rfl⟩
  have hb2 : Below w.heap.size w w2 := by rw [hw2]; exact bl_alloc (Below.refl _ _) _
  have hs2 : w2.heap.size = w.heap.size + 1 := by rw [hw2]; simp
  have HH2 := Hd (show Blk w2 w.heap.size 74 #[.int .i64 h.lo, .int .i64 h.hi, .int .i64 h.at_, .string ⟨⟨h.cl⟩⟩] by rw [hw2]; exact blk_new _ _ _ _ rfl)
  have HB2 := Hd hb2
  have HL2 := Hd (hL.below hb2)
  have HW2 := Hd (hW.below hb2)
  have HA2 := Hd (ha.below hb2)
  have HK2 := Hd (hk.below hb2)
  have HT2 := Hd (hbf.below hb2)
  have HF2 := Hd (hf.below hb2)
  have HM := Hd hM
  have HKF := Hd hkf
  have HAT := Hd hat
  have e0 := HH2.out.cell 0
  have e1 := HH2.out.cell 1
  have e2 := HH2.out.lt
  have a0 := HA2.out.cell 0
  have a1 := HA2.out.lt
  have htri : (z : Int) < h.lo ∨ (¬ (z : Int) < h.lo ∧ h.hi ≤ (z : Int)) ∨ (¬ (z : Int) < h.lo ∧ ¬ h.hi ≤ (z : Int)) := by omega
  obtain ⟨R, hR⟩ : ∃ R, R = badB (wl l) M z f h := ⟨_, rfl⟩
  rw [← hR]
  have HR := Hd hR
  unfold handV
  clear hW hL ha hk hbf hf hkf hM hb2 hR
  rcases htri with hlo | ⟨hlo, hhi⟩ | ⟨hlo, hhi⟩
  · have HE := Hd (show R = false by rw [HR.out]; exact badB_skip (Or.inl hlo))
    go_enter Tryz.func157, Tryz.ntmps157
    go_upto_region 1 with fail
    rw [← hw2]
    clear hw2
    go_wp2_with fail
    go_ret
    exact ⟨by rw [HE.out]; rfl, HB2.out⟩
  · have HE := Hd (show R = false by rw [HR.out]; exact badB_skip (Or.inr hhi))
    go_enter Tryz.func157, Tryz.ntmps157
    go_upto_region 1 with fail
    rw [← hw2]
    clear hw2
    go_wp2_with fail
    go_ret
    exact ⟨by rw [HE.out]; rfl, HB2.out⟩
  · have HE0 := Hd (show R = !((cFn (wl l) h f).elim false fun g => meetsB (wl l) M h.at_ g) by rw [HR.out]; exact badB_in hlo hhi)
    have HCA := Hd (fun W (hw : Below w2.heap.size w2 W) => (caught_calls l LC b h.lo h.hi h.at_ h.cl f q W (HW2.out.below hw) (HF2.out.below hw) (by omega)).mono (fun e w' h => caures h))
    have HSC := Hd (fun W (hw : Below w2.heap.size w2 W) => (show W.cell? ⟨bk, 0, none⟩ = some (.pointer (some ⟨K, 0, none⟩)) ∧ W.cell? ⟨K, 0, none⟩ = some (.map (some b)) ∧ W.cell? ⟨w.heap.size, 0, none⟩ = some (.int .i64 h.lo) ∧ W.cell? ⟨w.heap.size, 1, none⟩ = some (.int .i64 h.hi) ∧ W.cell? ⟨w.heap.size, 2, none⟩ = some (.int .i64 h.at_) ∧ W.cell? ⟨w.heap.size, 3, none⟩ = some (.string ⟨⟨h.cl⟩⟩) ∧ W.cell? ⟨bf, 0, none⟩ = some (.slice q.la f.loc.length q.lc) ∧ W.cell? ⟨bf, 1, none⟩ = some (.slice q.sa f.st.length q.sc) from
      ⟨(HK2.out.below hw).cell 0, (HL2.out.below hw).blk.cell 0, (HH2.out.below hw).cell 0, (HH2.out.below hw).cell 1, (HH2.out.below hw).cell 2, (HH2.out.below hw).cell 3, (HT2.out.below hw).cell 0, (HT2.out.below hw).cell 1⟩))
    have HAL := Hd (show Below w2.heap.size w2 (w2.alloc (.cells #[.slice none 0 0, .slice none 0 0] 60)).drew from (bl_alloc (Below.refl _ _) _).drew)
    have HZ1 := Hd (show Blk (w2.alloc (.cells #[.slice none 0 0, .slice none 0 0] 60)).drew (w.heap.size + 1) 60 #[.slice none 0 0, .slice none 0 0] from by have h := blk_new w2 w2.heap.size 60 #[.slice none 0 0, .slice none 0 0] rfl; rw [hs2] at h; exact h)
    have c3 := HL2.out.blk.lt
    unfold frV at HCA
    go_enter Tryz.func157, Tryz.ntmps157
    go_upto_region 1 with fail
    rw [← hw2]
    clear hw2
    go_upto_region 3 with fail
    clear e0 e1 a0 a1
    go_region_held3 (fun W' => W'.cell? ⟨bk, 0, none⟩ = some (.pointer (some ⟨K, 0, none⟩)) ∧ W'.cell? ⟨K, 0, none⟩ = some (.map (some b)) ∧ W'.cell? ⟨w.heap.size, 0, none⟩ = some (.int .i64 h.lo) ∧ W'.cell? ⟨w.heap.size, 1, none⟩ = some (.int .i64 h.hi) ∧ W'.cell? ⟨w.heap.size, 2, none⟩ = some (.int .i64 h.at_) ∧ W'.cell? ⟨w.heap.size, 3, none⟩ = some (.string ⟨⟨h.cl⟩⟩) ∧ W'.cell? ⟨bf, 0, none⟩ = some (.slice q.la f.loc.length q.lc) ∧ W'.cell? ⟨bf, 1, none⟩ = some (.slice q.sa f.st.length q.sc))
      (first | exact HSC.out _ (Below.refl _ _) | exact HSC.out _ (Below.refl _ _).drew | exact HSC.out _ HAL.out | exact HSC.out _ (bl_alloc (Below.refl _ _) _) | exact HSC.out _ (bl_alloc (Below.refl _ _).drew _) | exact HSC.out _ hb5 | exact HSC.out _ hb5.drew | exact HSC.out _ hbA | exact HSC.out _ (bl_alloc hbA _))
      ((first
      | (go_at_call 137
         with_reducible refine (HCA.out w2.drew (Below.refl _ _).drew).mono ?_
         rintro e wb ⟨gb, n1, gc1, n2, gc2, is, ga, rfl, hbb, hor⟩
         have hbA := bl_trans (Below.refl w2.heap.size w2).drew hbb
         obtain ⟨w5, hst5, hb5', hk5⟩ := fstore_new wb ga n1 gc1 gb n2 gc2
         have hb5 := bl_trans hbA hb5'
         have hfa : ∀ g, g.loc = f.loc → FrAt wb g ⟨q.la, gc1, gb, gc2⟩ → (∀ ad, gb = some ad → w2.drew.heap.size ≤ ad.block) → FrAt w5 g ⟨q.la, gc1, gb, gc2⟩ := fun g _ h hn => h.below hb5'
         have hsb5 : wb.heap.size ≤ w5.heap.size := hb5'.size
         have ht5 : w2.heap.size ≤ wb.heap.size := hbA.size
         obtain ⟨T9, hT9⟩ : ∃ T, T = wb.heap.size := ⟨_, rfl⟩)
      | (go_at_call 137
         with_reducible refine (HCA.out (w2.alloc (.cells #[.slice none 0 0, .slice none 0 0] 60)).drew HAL.out).mono ?_
         rintro e wb ⟨gb, n1, gc1, n2, gc2, is, ga, rfl, hbb, hor⟩
         have hbA := bl_trans HAL.out hbb
         obtain ⟨w5, hst5, hg5, hk5⟩ := fstore_old wb (w.heap.size + 1) ga n1 gc1 gb n2 gc2 (HZ1.out.below hbb)
         have hb5 := gb_to_below hbA hg5 (by omega)
         have hfa : ∀ g, g.loc = f.loc → FrAt wb g ⟨q.la, gc1, gb, gc2⟩ → (∀ ad, gb = some ad → (w2.alloc (.cells #[.slice none 0 0, .slice none 0 0] 60)).drew.heap.size ≤ ad.block) → FrAt w5 g ⟨q.la, gc1, gb, gc2⟩ := fun g hgl h hn => by
           have e9 : (w2.alloc (.cells #[.slice none 0 0, .slice none 0 0] 60)).drew.heap.size = w2.heap.size + 1 := by show (w2.alloc _).heap.size = _; simp
           rw [e9] at hn
           exact ⟨srow_but hg5 h.1 HF2.out.1 hgl (by omega), gb_srow hg5 h.2 (fun ad e => by have := hn ad e; omega)⟩
         have hsb5 : wb.heap.size ≤ w5.heap.size := hg5.size
         have ht5 : w2.heap.size ≤ w.heap.size + 1 := by omega
         obtain ⟨T9, hT9⟩ : ∃ T, T = w.heap.size + 1 := ⟨_, rfl⟩)))
    · rw [← hT9]
      have ht9 : w2.heap.size ≤ T9 := by omega
      have HK5 := Hd (show Blk w5 T9 60 (slc ga n1 gc1 gb n2 gc2) by rw [hT9]; exact hk5)
      have HL5 := Hd (HL2.out.below hb5)
      have HH5 := Hd (HH2.out.below hb5)
      have HKB5 := Hd (HK2.out.below hb5)
      have HW5 := Hd (HW2.out.below hb5)
      have HFA := Hd hfa
      have HB5 := Hd (bl_trans HB2.out hb5)
      clear hT9 hst5 hb5 hk5 hbA hbb hfa c3 e2
      rcases hor with ⟨rfl, hno⟩ | ⟨rfl, g, hcf, rfl, rfl, hga, rfl, hgn⟩
      · have HE := Hd (show R = true by rw [HE0.out]; unfold cFn; rw [hno]; rfl)
        clear hno
        go_wp2_with fail
        go_ret
        exact ⟨by rw [HE.out]; rfl, HB5.out⟩
      · have hfg := HFA.out g (caught_loc hcf) hga hgn
        have hkg : KOk (wl l) g := caught_kok HKF.out hcf
        have HE := Hd (show R = !meetsB (wl l) M h.at_ g by rw [HE0.out, show cFn (wl l) h f = some g from hcf]; rfl)
        have HME := Hd (meets_calls l LC K MB b m p M h.at_ g ⟨q.la, gc1, gb, gc2⟩ w5 HW5.out HL5.out HAT.out hfg hkg HM.out)
        unfold frV at HME
        generalize meetsB (wl l) M h.at_ g = mb at *
        have x0 := HK5.out.cell 0
        have x1 := HK5.out.cell 1
        have x2 := HK5.out.lt
        have y2 := HH5.out.cell 2
        have y3 := HH5.out.lt
        have y4 := HKB5.out.cell 0
        have y5 := HKB5.out.lt
        unfold slc at x0 x1
        clear hcf hga hgn hfg hkg HCA HSC HAL HZ1 HFA
        go_wp2_with fail
        refine HME.out.mono ?_
        rintro e w7 ⟨rfl, hb7⟩
        have HB7 := Hd (bl_trans HB5.out hb7)
        clear hb7
        go_wp2_with fail
        go_ret
        exact ⟨by rw [HE.out]; rfl, HB7.out⟩
    · rw [← hT9]
      have ht9 : w2.heap.size ≤ T9 := by omega
      have HK5 := Hd (show Blk w5 T9 60 (slc ga n1 gc1 gb n2 gc2) by rw [hT9]; exact hk5)
      have HL5 := Hd (HL2.out.below hb5)
      have HH5 := Hd (HH2.out.below hb5)
      have HKB5 := Hd (HK2.out.below hb5)
      have HW5 := Hd (HW2.out.below hb5)
      have HFA := Hd hfa
      have HB5 := Hd (bl_trans HB2.out hb5)
      clear hT9 hst5 hb5 hk5 hbA hbb hfa c3 e2
      rcases hor with ⟨rfl, hno⟩ | ⟨rfl, g, hcf, rfl, rfl, hga, rfl, hgn⟩
      · have HE := Hd (show R = true by rw [HE0.out]; unfold cFn; rw [hno]; rfl)
        clear hno
        go_wp2_with fail
        go_ret
        exact ⟨by rw [HE.out]; rfl, HB5.out⟩
      · have hfg := HFA.out g (caught_loc hcf) hga hgn
        have hkg : KOk (wl l) g := caught_kok HKF.out hcf
        have HE := Hd (show R = !meetsB (wl l) M h.at_ g by rw [HE0.out, show cFn (wl l) h f = some g from hcf]; rfl)
        have HME := Hd (meets_calls l LC K MB b m p M h.at_ g ⟨q.la, gc1, gb, gc2⟩ w5 HW5.out HL5.out HAT.out hfg hkg HM.out)
        unfold frV at HME
        generalize meetsB (wl l) M h.at_ g = mb at *
        have x0 := HK5.out.cell 0
        have x1 := HK5.out.cell 1
        have x2 := HK5.out.lt
        have y2 := HH5.out.cell 2
        have y3 := HH5.out.lt
        have y4 := HKB5.out.cell 0
        have y5 := HKB5.out.lt
        unfold slc at x0 x1
        clear hcf hga hgn hfg hkg HCA HSC HAL HZ1 HFA
        go_wp2_with fail
        refine HME.out.mono ?_
        rintro e w7 ⟨rfl, hb7⟩
        have HB7 := Hd (bl_trans HB5.out hb7)
        clear hb7
        go_wp2_with fail
        go_ret
        exact ⟨by rw [HE.out]; rfl, HB7.out⟩
set_option maxRecDepth 100000 in
set_option maxHeartbeats 1000000 in
theorem indexHand (l : List HandR) (a : Option Addr) (cap : Nat) (w : World) (lb : Array Value) (q : HandR → Bool) (h : HandsAt w a cap l) (hl : l.length ≤ 1000000000) (hq : ∀ (k : Nat) (x : HandR), l[k]? = some x → PredB 157 lb (handV x) (q x) w) :
    Calls Tryz.prog 187 #[.slice a l.length cap, .func (.func 157) #[] lb] w fun e w' => (∃ i : Int, e = .returned (.int .i64 i) ∧ decide (0 ≤ i) = l.any q) ∧ Below w.heap.size w w' := by
  have HQ := Hd hq
  have HL := Hd h
  clear hq h
  go_enter Tryz.func187, Tryz.ntmps187
  go_wp2_with fail
  go_loopw [8] (fun i wr => ∃ k : Nat, k ≤ l.length ∧ i = .int .i64 k ∧ Below w.heap.size w wr ∧ Hid (∀ x ∈ l.take k, q x = false)) (fun i _ => l.length - (RowKit.intOf i).toNat)
  case atStart => exact ⟨0, by omega, rfl, Below.refl _ _, Hd (by simp)⟩
  case round =>
    obtain ⟨k, hk, rfl, hb, HZ⟩ := hrel
    have HB := Hd hb
    by_cases hlk : k < l.length
    · obtain ⟨x, hx⟩ : ∃ x, l[k]? = some x := ⟨_, List.getElem?_eq_getElem hlk⟩
      obtain ⟨b, off, rfl, hlt, c0, c1, c2, c3⟩ := (HL.out.below hb).cells hx
      have HP := Hd (HQ.out k x hx wr hb)
      have HX := Hd hx
      unfold handV at HP
      clear hx hb
      cases hr : q x with
      | true =>
        rw [hr] at HP
        have HA := Hd (any_hit HX.out hr)
        clear hr
        go_wp2_with fail
        refine HP.out.mono ?_
        rintro e w2 ⟨rfl, hb2⟩
        have HB2 := Hd hb2
        clear hb2
        go_wp2_with fail
        go_ret
        exact ⟨⟨k, rfl, by rw [HA.out]; simp⟩, HB2.out⟩
      | false =>
        rw [hr] at HP
        have HZ2 := Hd (take_all_succ HZ.out HX.out hr)
        clear hr
        go_wp2_with fail
        refine HP.out.mono ?_
        rintro e w2 ⟨rfl, hb2⟩
        have HB2 := Hd hb2
        clear hb2
        go_wp2_with fail
        go_roundw
        case rel => exact ⟨k + 1, by omega, by go_num, HB2.out, HZ2⟩
        case measure => simp [RowKit.intOf]; omega
    · obtain rfl : k = l.length := by omega
      have HA := Hd (any_miss (by have := HZ.out; rwa [List.take_length] at this))
      go_wp2_with fail
      go_ret
      exact ⟨⟨-1, rfl, by rw [HA.out]; simp⟩, HB.out⟩
set_option maxRecDepth 100000 in
set_option maxHeartbeats 400000 in
theorem containsHand (l : List HandR) (a : Option Addr) (cap : Nat) (w : World) (lb : Array Value) (q : HandR → Bool) (h : HandsAt w a cap l) (hl : l.length ≤ 1000000000) (hq : ∀ (k : Nat) (x : HandR), l[k]? = some x → PredB 157 lb (handV x) (q x) w) :
    Calls Tryz.prog 156 #[.slice a l.length cap, .func (.func 157) #[] lb] w fun e w' => e = .returned (.bool (l.any q)) ∧ Below w.heap.size w w' := by
  have HI := Hd (indexHand l a cap w lb q h hl hq)
  clear hq h
  go_enter Tryz.func156, Tryz.ntmps156
  go_wp2_with fail
  refine HI.out.mono ?_
  rintro e w2 ⟨⟨i, rfl, hi⟩, hb2⟩
  have HB2 := Hd hb2
  have HI2 := Hd hi
  clear hb2 hi
  go_wp2_with fail
  go_ret
  exact ⟨by rw [← HI2.out]; rfl, HB2.out⟩
theorem wcaught_calls (l : List ClassR) (LC : List CP) (K MB b : Nat) (m : MethR) (p : MAddr) (M : Int → Option FrR) (z : Nat) (f : FrR) (q : FAddr) (w : World) (hW : WOk w b l LC) (hL : WkAt w K MB b m p M) (hH : MethAt w m p) (hm : MOk m) (hf : FrAt w f q) (hkf : KOk (wl l) f) (hM : ∀ z g, M z = some g → KOk (wl l) g) :
    Calls Tryz.prog 97 #[.pointer (some ⟨K, 0, none⟩), .int .i64 z, frV f q] w fun e w' => e = .returned (.bool (capB (wl l) (cFn (wl l)) m.hs M z f)) ∧ Below w.heap.size w w' := by
  have hmf : ∀ (fn : Fn) (first cap : Array Value) (w : World), (Instr.makeFunc fn first cap).run Tryz.prog w = .ok (.func fn first cap) w := fun _ _ _ _ => rfl
  obtain ⟨w1, hw1⟩ : ∃ w1, w1 = ((w.alloc (.cells #[.pointer (some ⟨K, 0, none⟩)] 117)).alloc (.cells #[.int .i64 z] 3)).alloc (.cells #[.slice q.la f.loc.length q.lc, .slice q.sa f.st.length q.sc] 60) := ⟨_, rfl⟩
  have hb1 : Below w.heap.size w w1 := by rw [hw1]; exact bl_alloc (bl_alloc (bl_alloc (Below.refl _ _) _) _) _
  have hk1 : Blk w1 w.heap.size 117 #[.pointer (some ⟨K, 0, none⟩)] := by rw [hw1]; exact ((blk_new _ _ _ _ rfl).alloc _).alloc _
  have ha1 : Blk w1 (w.heap.size + 1) 3 #[.int .i64 z] := by rw [hw1]; exact (blk_new _ _ _ _ (by simp)).alloc _
  have ht1 : Blk w1 (w.heap.size + 1 + 1) 60 #[.slice q.la f.loc.length q.lc, .slice q.sa f.st.length q.sc] := by rw [hw1]; exact blk_new _ _ _ _ (by simp)
  have HB1 := Hd hb1
  have HC := Hd (containsHand m.hs p.ha p.hc w1 #[.pointer (some ⟨w.heap.size + 1, 0, none⟩), .pointer (some ⟨w.heap.size, 0, none⟩), .pointer (some ⟨w.heap.size + 1 + 1, 0, none⟩)] (badB (wl l) M z f) (hH.2.below hb1) (by have := hm.hl; omega) (fun k x hx W hw => by
    obtain ⟨q1, q2, q3, q4, q5, q6⟩ := hm.hs x (List.mem_of_getElem? hx)
    have := hm.flow.len
    have := (name_len q6).2
    have hlc := lit_calls l LC K MB b (w.heap.size + 1) w.heap.size (w.heap.size + 1 + 1) m p M z f q x W ((hW.below hb1).below hw) ((hL.below hb1).below hw) (ha1.below hw) (hk1.below hw) (ht1.below hw) ((hf.below hb1).below hw) hkf hM (by omega) (by omega)
    rw [show (#[handV x] ++ #[Value.pointer (some ⟨w.heap.size + 1, 0, none⟩), Value.pointer (some ⟨w.heap.size, 0, none⟩), Value.pointer (some ⟨w.heap.size + 1 + 1, 0, none⟩)] : Array Value) = #[handV x, .pointer (some ⟨w.heap.size + 1, 0, none⟩), .pointer (some ⟨w.heap.size, 0, none⟩), .pointer (some ⟨w.heap.size + 1 + 1, 0, none⟩)] by simp]
    exact hlc.mono (fun e w2 h => ⟨h.1, bl_trans hw h.2⟩)))
  rw [capB_any]
  generalize m.hs.any (badB (wl l) M z f) = r at *
  have k0 := hk1.cell 0
  have k1 := hk1.lt
  have L1 := (hL.below hb1).blk
  have k8 := L1.cell 8
  have k9 := L1.lt
  unfold wkArr at k8
  unfold frV
  clear hW hL hH hf hkf hM hb1 hk1 ha1 ht1 L1
  go_enter Tryz.func97, Tryz.ntmps97
  go_upto_region 1 with fail
  rw [← hw1]
  clear hw1
  go_wp2_with fail
  refine HC.out.mono ?_
  rintro e w2 ⟨rfl, hb2⟩
  have HB2 := Hd (bl_trans HB1.out hb2)
  clear hb2
  go_wp2_with fail
  go_ret
  exact ⟨rfl, HB2.out⟩
end Go.Proofs.YtfddgdbebhmcnaaGreatDoor
