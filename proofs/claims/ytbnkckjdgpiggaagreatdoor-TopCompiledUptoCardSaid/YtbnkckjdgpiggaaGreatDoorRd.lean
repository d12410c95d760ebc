import Derived.Test.YtbnkckjdgpiggaaGreatDoorRc
import Derived.Test.YtbnkckjdgpiggaaGreatDoorCd
namespace Go.Proofs.YtbnkckjdgpiggaaGreatDoor
set_option maxRecDepth 100000
set_option maxHeartbeats 16000000
set_option linter.unusedVariables false
set_option linter.unusedSimpArgs false
open Go.RowKit Go.Shelf Go.Lib Go.Sort
theorem zzd (n : Nat) (fuel : Int) (K : Nat) (St : Nat -> World -> Prop) (w : World) (hbel : ∀ i W W', St i W -> Below W.heap.size W W' -> St i W')
   (hblk : ∀ i W, i <= n -> St i W -> ∃ b hv cv tk tn th, Blk W K 86 (zbo b hv cv tk tn th i (decide (i = n))))
   (hstep : ∀ i W, i < n -> St i W -> Calls Tryz.prog 52 #[.pointer (some ⟨K, 0, none⟩)] (W.setCell ⟨K, 6, none⟩ (.int .i64 (i + 1))) fun e w' => e = .returned (.tuple #[]) /\ St (i + 1) w' /\ zci (W.setCell ⟨K, 6, none⟩ (.int .i64 (i + 1))) w')
   (hf : (n : Int) <= fuel) (hn : n <= 2000) (h0 : St 0 w) :
   Calls Tryz.prog 27 #[.pointer (some ⟨K, 0, none⟩), .int .i64 fuel] w fun e w' => e = .returned .nilIface /\ St n w' /\ zci w w' := by
 have hmf : ∀ (fn : Fn) (first cap : Array Value) (w : World), (Instr.makeFunc fn first cap).run Tryz.prog w = .ok (.func fn first cap) w := fun _ _ _ _ => rfl
 obtain ⟨w1, hw1⟩ : ∃ w1, w1 = w.alloc (.cells #[.nilIface] 28) := ⟨_, rfl⟩
 have hb1 : Below w.heap.size w w1 := by rw [hw1]; exact ze (Below.refl _ _) _
 have HE1 := Hq (show Blk w1 w.heap.size 28 #[.nilIface] by rw [hw1]; exact zg _ _ _ _ rfl)
 have HS1 := Hq (hbel 0 w w1 h0 hb1)
 have HK1 := Hq (zci.of_below hb1)
 have HBL := Hq hblk
 have HST := Hq hstep
 have HBB := Hq hbel
 clear hbel hblk hstep h0 hb1
 go_enter_defers Tryz.func27, Tryz.ntmps27
 go_upto_region 1 with fail
 rw [<- hw1]
 clear hw1
 go_wp2_with fail
 go_loopg [] n (fun gk wr => ∃ i : Nat, i <= n /\ gk = n - i /\ St i wr /\ Blk wr w.heap.size 28 #[.nilIface] /\ zci w wr)
 case atStart => exact ⟨0, by omega, by omega, HS1.out, HE1.out, HK1.out⟩
 case round =>
   obtain ⟨i, hi, hgk, hs, he, hkt⟩ := hrel
   obtain ⟨b, hv, cv, tk, tn, th, hk⟩ := HBL.out i wr hi hs
   have HK := Hq hk
   have k0 := hk.cell 7
   have k1 := hk.cell 6
   have k2 := hk.frozen 6
   have k3 := hk.lt
   unfold zbo at k0 k1
   by_cases hlt : i < n
   . have hd : decide (i = n) = false := by simp; omega
     rw [hd] at k0
     have hne : ((i : Int) == fuel) = false := by rw [beq_eq_false_iff_ne]; omega
     have HS := Hq (HST.out i wr hlt hs)
     have HT := Hq (zci.grown hk (Or.inr (Or.inr (Or.inl rfl))) (zai (zp wr K) 6 (.int .i64 ((i : Int) + 1))))
     have HE := Hq he
     have HKT := Hq hkt
     clear hs he hkt hk
     go_wp2_with fail
     refine HS.out.mono ?_
     rintro e w5 ⟨rfl, hs5, hk5⟩
     have HS5 := Hq hs5
     have HE5 := Hq (hk5 _ _ _ (by unfold zsh; decide) (HT.out _ _ _ (by unfold zsh; decide) HE.out))
     have HK5 := Hq ((HKT.out.trans HT.out).trans hk5)
     clear hs5 hk5 k0 k1 k2 k3
     go_wp2_with fail
     go_roundg (n - (i + 1))
     case measure => omega
     case rel => exact ⟨i + 1, by omega, rfl, HS5.out, HE5.out, HK5.out⟩
   . obtain rfl : i = n := by omega
     have hd : decide (i = i) = true := by simp
     rw [hd] at k0
     have HS := Hq hs
     have HE := Hq he
     have HKT := Hq hkt
     have e0 := he.cell 0
     have e1 := he.frozen 0
     have e2 := he.lt
     have HE9 := Hq (zm he 0 .nilIface)
     have hbl : Below wr.heap.size wr (wr.setCell ⟨w.heap.size, 0, none⟩ .nilIface) := ⟨rfl, rfl, rfl, by simp [World.setCell], fun k hk => by
       by_cases e : k = w.heap.size
       . subst e
         exact (zm he 0 .nilIface).trans he.symm
       . exact Below.heap_setCell _ _ _ _ (by exact e)⟩
     have HS9 := Hq (HBB.out i _ _ hs hbl)
     have HK9 := Hq (hkt.trans (zci.of_below hbl))
     clear hbl
     clear hs he hkt hk hd
     go_wp2_with fail
     refine leaves_cons (f := 51) (args := #[.pointer (some ⟨w.heap.size, 0, none⟩)]) (by simp) (by simp [go_sem]) ?_
     refine (zxx _ _).mono ?_
     rintro e u' w9 ⟨rfl, rfl, rfl⟩
     have d0 := HE9.out.cell 0
     simp [Leaves, settle, results, Tryz.results27, go_sem, d0]
     exact ⟨HS9.out, HK9.out⟩
theorem zvt (m : zo) (p : zaf) (n k : Nm) (bn bk : Nat) (w : World) (hn : Blk w bn 9 #[.string ⟨⟨n⟩⟩]) (hk : Blk w bk 9 #[.string ⟨⟨k⟩⟩]) :
   Calls Tryz.prog 24 #[zca m p, .pointer (some ⟨bn, 0, none⟩), .pointer (some ⟨bk, 0, none⟩)] w fun e w' => e = .returned (.bool (m.nm == n && m.ty == k)) /\ Below w.heap.size w w' := by
 obtain ⟨w2, hw2⟩ : ∃ w2, w2 = w.alloc (.cells (zj4 m p) 45) := ⟨_, rfl⟩
 have hb2 : Below w.heap.size w w2 := by rw [hw2]; exact ze (Below.refl _ _) _
 have HM := Hq (show Blk w2 w.heap.size 45 (zj4 m p) by rw [hw2]; exact zg _ _ _ _ rfl)
 have HB2 := Hq hb2
 have e0 := HM.out.cell 0
 have e1 := HM.out.cell 1
 have e2 := HM.out.lt
 have n0 := (hn.below hb2).cell 0
 have n1 := (hn.below hb2).lt
 have k0 := (hk.below hb2).cell 0
 have k1 := (hk.below hb2).lt
 unfold zj4 at hw2 e0 e1
 unfold zca
 clear hn hk hb2
 go_enter Tryz.func24, Tryz.ntmps24
 go_upto_region 1 with fail
 rw [<- hw2]
 clear hw2
 cases h1 : (m.nm == n) with
 | true =>
   go_wp2_with fail
   go_ret
   exact ⟨zaa (by rw [h1]; simp), HB2.out⟩
 | false =>
   go_wp2_with fail
   go_ret
   exact ⟨zaa (by rw [h1]; simp), HB2.out⟩
theorem zrk (l : List zo) (a : Option Addr) (cap : Nat) (ps : List zaf) (w : World) (lb : Array Value) (q : zo -> Bool) (h : zct w a cap l ps) (hl : l.length <= 1000000000) (hq : ∀ (k : Nat) (x : zo) (p : zaf), l[k]? = some x -> ps[k]? = some p -> zna 24 lb (zca x p) (q x) w) :
   Calls Tryz.prog 23 #[.slice a l.length cap, .func (.func 24) #[] lb] w fun e w' => (∃ i : Int, e = .returned (.int .i64 i) /\ ((i = -1 /\ ∀ x ∈ l, q x = false) \/ ∃ k : Nat, i = k /\ ∃ x, l[k]? = some x /\ q x = true /\ ∀ y ∈ l.take k, q y = false)) /\ Below w.heap.size w w' := by
 have HQ := Hq hq
 have HL := Hq h
 clear hq h
 go_enter Tryz.func23, Tryz.ntmps23
 go_wp2_with fail
 go_loopw [8] (fun i wr => ∃ k : Nat, k <= l.length /\ i = .int .i64 k /\ Below w.heap.size w wr /\ Hid (∀ x ∈ l.take k, q x = false)) (fun i _ => l.length - (RowKit.intOf i).toNat)
 case atStart => exact ⟨0, by omega, rfl, Below.refl _ _, Hq (by simp)⟩
 case round =>
   obtain ⟨k, hk, rfl, hb, HZ⟩ := hrel
   have HB := Hq hb
   by_cases hlk : k < l.length
   . obtain ⟨x, hx⟩ : ∃ x, l[k]? = some x := ⟨_, List.getElem?_eq_getElem hlk⟩
     obtain ⟨b, off, p, rfl, hlt, hpp, _, c0, c1, c2, c3, c4, c5, c6, c7⟩ := (HL.out.below hb).cells hx
     have HP := Hq (HQ.out k x p hx hpp wr hb)
     have HX := Hq hx
     unfold zca at HP
     clear hx hb
     cases hr : q x with
     | true =>
       rw [hr] at HP
       have HR := Hq hr
       clear hr
       go_wp2_with fail
       refine HP.out.mono ?_
       rintro e w2 ⟨rfl, hb2⟩
       have HB2 := Hq hb2
       clear hb2
       go_wp2_with fail
       go_ret
       exact ⟨⟨k, rfl, Or.inr ⟨k, rfl, x, HX.out, HR.out, HZ.out⟩⟩, HB2.out⟩
     | false =>
       rw [hr] at HP
       have HZ2 := Hq (za8 HZ.out HX.out hr)
       clear hr
       go_wp2_with fail
       refine HP.out.mono ?_
       rintro e w2 ⟨rfl, hb2⟩
       have HB2 := Hq hb2
       clear hb2
       go_wp2_with fail
       go_roundw
       case rel => exact ⟨k + 1, by omega, by go_num, HB2.out, HZ2⟩
       case measure => simp [RowKit.intOf]; omega
   . obtain rfl : k = l.length := by omega
     have HA := Hq (show ∀ x ∈ l, q x = false by have := HZ.out; rwa [List.take_length] at this)
     go_wp2_with fail
     go_ret
     exact ⟨⟨-1, rfl, Or.inl ⟨rfl, HA.out⟩⟩, HB.out⟩
theorem zms (l : List zd) (ps : List zbf) (a : Option Addr) (cap : Nat) (w : World) (hC : za7 w a cap l ps) (hF : zaw w) (hB : zl9 l) (hT : TyB l) :
   Calls Tryz.prog 22 #[.slice a l.length cap] w fun e w' => (∃ v : Option Nat, e = .returned (.tuple #[.map v, zaj (zej l)])) /\ Below w.heap.size w w' /\ (zej l = 0 -> ∃ b, e = .returned (.tuple #[.map (some b), .nilIface]) /\ WOk w' b l (wcp l ps)) := by
 have HR := Hq (z6w l ps a cap w hC hF hB)
 have HC := Hq hC
 have HT := Hq hT
 have HBD := Hq hB
 clear hC hF hB hT
 go_enter Tryz.func22, Tryz.ntmps22
 go_wp2_with fail
 refine HR.out.mono ?_
 rintro e w2 ⟨hb2, ⟨hne, rfl⟩ | ⟨hz, b, rfl, hw⟩⟩
 . have HB2 := Hq hb2
   have HEE := Hq (show zaj (zej l) = zby (zaq l) by rw [show zej l = zaq l by unfold zej; rw [if_pos hne]]; exact za4 hne)
   have HCN := Hq (show zej l ≠ 0 by unfold zej; rw [if_pos hne]; exact hne)
   clear hb2 hne
   go_wp2_with fail
   go_ret2
   exact ⟨⟨none, by rw [HEE.out]; rfl⟩, HB2.out, fun h => absurd h HCN.out⟩
 . have HB2 := Hq hb2
   have HW := Hq hw
   have HG := Hq hw.good
   have hll : l.length <= 10 := hw.good.len
   have HE0 := Hq (show zej l = if l.any (z5f (wl l)) = true then 7 else 0 by unfold zej; rw [if_neg (by simp [hz])])
   clear hb2 hw hz
   go_wp2_with fail
   go_loopw [22] (fun i wr => ∃ k : Nat, k <= l.length /\ i = .int .i64 k /\ Below w2.heap.size w2 wr /\ Hid (∀ c ∈ l.take k, z5f (wl l) c = false)) (fun i _ => l.length - (RowKit.intOf i).toNat)
   case atStart => exact ⟨0, by omega, rfl, Below.refl _ _, Hq (by simp)⟩
   case round =>
     obtain ⟨k, hk, rfl, hb, HZ⟩ := hrel
     have HBr := Hq hb
     by_cases hlk : k < l.length
     . obtain ⟨c, hx⟩ : ∃ c, l[k]? = some c := ⟨_, List.getElem?_eq_getElem hlk⟩
       have hcm := List.mem_of_getElem? hx
       obtain ⟨b1, off, p, hpa, hlt, hp, hca, d0, d1, d2, d3, d4, d5⟩ := (HC.out.below (zc HB2.out hb)).cells hx
       have HD := Hq (zov wr (c, p))
       have HKL := Hq hlk
       have hkll : k < 10 := by omega
       have HX := Hq hx
       have HCA := Hq hca
       have hcb := (HBD.out c hcm).1
       have hnl : c.nm.length <= 20 := (zir HG.out (show c ∈ wl l by unfold wl; simp [hcm])).1
       have hml := hcb.meths
       have HCM := Hq hcm
       subst hpa
       have hj0 : (0 : Int) <= (k : Int) := Int.natCast_nonneg _
       have hji : (k : Int) < (l.length : Int) := by omega
       clear hx hp hca hb hcm hcb
       obtain ⟨w3, hw3⟩ : ∃ w3, w3 = wr.alloc (.cells #[.string ⟨⟨c.nm⟩⟩, .string ⟨⟨c.sup⟩⟩, .slice p.fa c.faces.length p.fc, .bool c.face, .slice p.ga c.fields.length p.gc, .slice p.ma c.meths.length p.mc] 50) := ⟨_, rfl⟩
       have hb3 : Below wr.heap.size wr w3 := by rw [hw3]; exact ze (Below.refl _ _) _
       have HD3 := Hq (show zn0 w3 wr.heap.size (c, p) by rw [hw3]; exact HD.out)
       have HCA3 := Hq (HCA.out.below hb3)
       have HB3 := Hq (zc HBr.out hb3)
       clear hb3 HD
       go_upto_region 7 with fail
       rw [<- hw3]
       clear hw3 d0 d1 d2 d3 d4 d5
       obtain ⟨c0, c1, c2, c3, c4, c5⟩ := HD3.out.cells
       have c6 := HD3.out.lt
       dsimp only at c0 c1 c2 c3 c4 c5
       go_wp2_with fail
       clear c0 c1 c2 c3 c4 c5 c6
       go_loopw [29] (fun i wq => ∃ j : Nat, j <= c.meths.length /\ i = .int .i64 j /\ Below w3.heap.size w3 wq /\ Hid (∀ m ∈ c.meths.take j, z1u (wl l) c.nm m = false)) (fun i _ => c.meths.length - (RowKit.intOf i).toNat)
       case atStart => exact ⟨0, by omega, rfl, Below.refl _ _, Hq (by simp)⟩
       case round =>
         obtain ⟨j, hj, rfl, hb, HZM⟩ := hrel
         have HBq := Hq hb
         have HBq2 := Hq (zc HB3.out hb)
         have hsq := hb.size
         by_cases hlj : j < c.meths.length
         . obtain ⟨m, hm⟩ : ∃ m, c.meths[j]? = some m := ⟨_, List.getElem?_eq_getElem hlj⟩
           have hmm := List.mem_of_getElem? hm
           obtain ⟨bm, offm, q, hqa, hltm, hq, hma, e0, e1, e2, e3, e4, e5, e6, e7⟩ := (HCA3.out.2.2.below hb).cells hm
           have HMA := Hq hma
           have HMM := Hq hm
           have HDq := Hq (HD3.out.below hb)
           have htb := HT.out HG.out c HCM.out m hmm
           have hj0' : (0 : Int) <= (j : Int) := Int.natCast_nonneg _
           have hji' : (j : Int) < (c.meths.length : Int) := by omega
           obtain ⟨w4, hw4⟩ : ∃ w4, w4 = wr.alloc (.cells #[.string ⟨⟨m.nm⟩⟩, .string ⟨⟨m.ty⟩⟩, .bool m.stat, .bool m.abst, .bool m.priv, .int .i64 m.loc, .slice q.ca m.code.length q.cc, .slice q.ha m.hs.length q.hc] 45) := ⟨_, rfl⟩
           have hb4 : Below wr.heap.size wr w4 := by rw [hw4]; exact ze (Below.refl _ _) _
           have HM4 := Hq (show Blk w4 wr.heap.size 45 (zj4 m q) by rw [hw4]; exact zg _ _ _ _ rfl)
           have HD4 := Hq (HDq.out.below hb4)
           have HB4 := Hq (zc HBq.out hb4)
           have HB42 := Hq (zc HBq2.out hb4)
           have HMO := Hq (fun (ha : m.abst = false) => zoo HG.out HCM.out hmm ha)
           have HLD := Hq (fun (ha : m.abst = false) => zrd l (wcp l ps) b c.nm m q w4 (HW.out.below HB42.out) (HMA.out.below hb4) (HMO.out ha) (by omega) htb.1 htb.2 (z3c (HMO.out ha).flow))
           have HQA := Hq hqa
           rw [hqa] at *
           clear hqa hm hmm hq hma hb hb4
           have hsw4 : w4.heap.size = wr.heap.size + 1 := by rw [hw4]; simp
           go_upto_region 10 with fail
           rw [<- hw4]
           clear hw4 e0 e1 e2 e3 e4 e5 e6 e7
           obtain ⟨g0, g1, g2, g3, g4, g5, g6, g7⟩ := zei HM4.out
           have g8 := HM4.out.lt
           obtain ⟨c0, _, _, _, _, _⟩ := HD4.out.cells
           have c6 := HD4.out.lt
           dsimp only at c0
           cases hab : m.abst with
           | true =>
             rw [hab] at g3
             have HZ2 := Hq (zfw HZM.out HMM.out (zzj hab))
             clear hab
             go_wp2_with fail
             go_roundw
             case rel => exact ⟨j + 1, by omega, by go_num, HB4.out, HZ2⟩
             case measure => simp [RowKit.intOf]; omega
           | false =>
             have HLD2 := Hq (HLD.out hab)
             have HAB := Hq hab
             rw [hab] at g3
             rw [ziw] at HLD2
             unfold zj4 at HLD2
             rw [hab] at HLD2
             clear hab HLD
             go_wp2_with fail
             refine HLD2.out.mono ?_
             rintro e w5 ⟨hb5, ⟨hno, rfl⟩ | ⟨fr, MB, hfr, rfl, _, _⟩⟩
             . have HB5 := Hq (zc HB2.out (zc HB42.out hb5))
               have HC7 := Hq (show zej l = 7 by
                 rw [HE0.out, if_pos (List.any_eq_true.2 ⟨c, List.mem_of_getElem? HX.out, List.any_eq_true.2 ⟨m, List.mem_of_getElem? HMM.out, zzs HAB.out hno⟩⟩)])
               have HE := Hq (show zaj (zej l) = zby 7 by
                 rw [HC7.out]
                 exact za4 (by omega))
               clear hb5 hno
               go_wp2_with fail
               go_ret2
               exact ⟨⟨none, by rw [HE.out]; rfl⟩, HB5.out, fun h => by rw [HC7.out] at h; omega⟩
             . have HB5 := Hq (zc HB4.out hb5)
               have HZ2 := Hq (zfw HZM.out HMM.out (zqb hfr))
               clear hb5 hfr
               go_wp2_with fail
               go_roundw
               case rel => exact ⟨j + 1, by omega, by go_num, HB5.out, HZ2⟩
               case measure => simp [RowKit.intOf]; omega
         . obtain rfl : j = c.meths.length := by omega
           have HZ2 := Hq (zfw HZ.out HX.out (show z5f (wl l) c = false from by
             unfold z5f
             rw [List.any_eq_false]
             intro m hm
             simp [HZM.out m (by rw [List.take_length]; exact hm)]))
           clear hb
           go_wp2_with fail
           go_roundw
           case rel => exact ⟨k + 1, by have := HKL.out; omega, by go_num, HBq2.out, HZ2⟩
           case measure => have := HKL.out; simp [RowKit.intOf]; omega
     . obtain rfl : k = l.length := by omega
       have HE := Hq (show zaj (zej l) = .nilIface by
         rw [HE0.out, if_neg (fun h => by
           obtain ⟨c, hc, hb⟩ := List.any_eq_true.1 h
           have := HZ.out c (by rw [List.take_length]; exact hc)
           rw [this] at hb; cases hb)]
         rfl)
       have HB9 := Hq (zc HB2.out HBr.out)
       have HW9 := Hq (HW.out.below HBr.out)
       clear hb
       go_wp2_with fail
       go_ret2
       exact ⟨⟨some b, by rw [HE.out]; rfl⟩, HB9.out, fun _ => ⟨b, rfl, HW9.out⟩⟩
theorem zqg (l : List zd) (ps : List zbf) (a : Option Addr) (cap : Nat) (w : World) (hC : za7 w a cap l ps) (hF : zaw w) (hB : zl9 l) (hT : TyB l) :
   Calls Tryz.prog 11 #[.slice a l.length cap] w fun e w' => e = .returned (zaj (zej l)) /\ Below w.heap.size w w' := by
 have HR := Hq (zms l ps a cap w hC hF hB hT)
 clear hC hF hB hT
 generalize zaj (zej l) = E at *
 go_enter Tryz.func11, Tryz.ntmps11
 go_wp2_with fail
 refine HR.out.mono ?_
 rintro e w2 ⟨⟨v, rfl⟩, hb2, _⟩
 have HB2 := Hq hb2
 clear hb2
 go_wp2_with fail
 go_ret
 exact ⟨rfl, HB2.out⟩
def zpw (tk tn : Int) (th : Nm) (s : Int) : Value := .agg #[.int .i64 tk, .int .i64 tn, .string ⟨⟨th⟩⟩, .int .i64 s]
def z71 (v : zbz) (t : Nm) : Prop := (v.kind = 1 /\ t = [73] /\ v.n = wrap32 v.n) \/ (v.kind = 2 /\ t = [74])
theorem z1n (b : Nat) {v : zbz} {t : Nm} (h : z71 v t) (w : World) : zju b none 0 0 v t true w := by
 obtain ⟨k, z⟩ := v
 rcases h with ⟨h1, h2, h3⟩ | ⟨h1, h2⟩
 . dsimp only at h1 h3
   subst h1 h2
   have := z02 b none 0 0 z [73] w
   rw [decide_eq_true h3] at this
   exact this
 . dsimp only at h1
   subst h1 h2
   exact zwv b none 0 0 z [74] w
theorem zlu (l : List zd) (ps : List zbf) (a : Option Addr) (cap : Nat) (c : Nm) (args : List zbz) (aq : HA) (fuel : Int) (w : World) (hC : za7 w a cap l ps) (hF : zaw w) (hB : zl9 l) (hA : zkh w args aq) (hck : zej l = 0) (hcl : c.length <= 1000)
   (cp : CP) (hcp : zbj (wcp l ps) c = some cp) (m : zo) (rest : List zo) (hm : cp.1.meths = m :: rest) (hst : m.stat = true) (A : List Nm) (g : Nm) (hty : zk m.ty A g) (htl : m.ty.length <= 1000) (hal : args.length = A.length) (hdo : ∀ (j : Nat) (v : zbz) (t : Nm), args[j]? = some v -> A[j]? = some t -> z71 v t)
   (hf0 : 0 <= fuel) (hf1 : fuel <= 2000) (n : Nat) (hloc : m.loc = n) (hn8 : n <= 8) (han : args.length <= n) (h0 : args ≠ [] \/ aq = (none, 0)) (tk tn : Int) (th : Nm) (s : Int)
   (hrun : ∀ (w5 w6 : World) (K c' lb cs cc b : Nat) (lq : HA) (q : zaf), Below w.heap.size w w5 -> WOk w5 b l (wcp l ps) -> zer w5 m q -> zd7 w5 w6 K c' lb cs cc b (.slice none 0 0) 0 c m q 0 (zsa args n) [] lq (none, 0) ->
     Calls Tryz.prog 27 #[.pointer (some ⟨K, 0, none⟩), .int .i64 fuel] w6 fun e w' => e = .returned .nilIface /\ (∃ hv cv, Blk w' K 86 (zbo b hv cv tk tn th s true)) /\ zci w6 w' /\ Below w5.heap.size w5 w') :
   Calls Tryz.prog 12 #[.slice a l.length cap, .string ⟨⟨c⟩⟩, .string ⟨⟨m.nm⟩⟩, .string ⟨⟨m.ty⟩⟩, .slice aq.1 args.length aq.2, .int .i64 fuel] w fun e w' => e = .returned (.tuple #[zpw tk tn th s, .nilIface]) /\ Below w.heap.size w w' := by
 have hmf : ∀ (fn : Fn) (first cap : Array Value) (w : World), (Instr.makeFunc fn first cap).run Tryz.prog w = .ok (.func fn first cap) w := fun _ _ _ _ => rfl
 obtain ⟨w1, hw1⟩ : ∃ w1, w1 = ((w.alloc (.cells #[.string ⟨⟨m.nm⟩⟩] 9)).alloc (.cells #[.string ⟨⟨m.ty⟩⟩] 9)).alloc (.cells #[.int .i64 0, .int .i64 0, .string ⟨#[]⟩, .int .i64 0] 56) := ⟨_, rfl⟩
 have hb1 : Below w.heap.size w w1 := by rw [hw1]; exact ze (ze (ze (Below.refl _ _) _) _) _
 have HN1 := Hq (show Blk w1 w.heap.size 9 #[.string ⟨⟨m.nm⟩⟩] by rw [hw1]; exact ((zg _ _ _ _ rfl).alloc _).alloc _)
 have HT1 := Hq (show Blk w1 (w.heap.size + 1) 9 #[.string ⟨⟨m.ty⟩⟩] by rw [hw1]; exact (zg _ _ _ _ (by simp)).alloc _)
 have HR1 := Hq (show Blk w1 (w.heap.size + 1 + 1) 56 #[.int .i64 0, .int .i64 0, .string ⟨#[]⟩, .int .i64 0] by rw [hw1]; exact zg _ _ _ _ (by simp))
 have hs1 : w1.heap.size = w.heap.size + 1 + 1 + 1 := by rw [hw1]; simp
 have HB1 := Hq hb1
 have HC1 := Hq (hC.below hb1)
 have HRD := Hq (zms l ps a cap w1 (hC.below hb1) (hF.below hb1) hB (z3z hB))
 have HCK := Hq hck
 have HCP := Hq hcp
 have HMS := Hq hm
 have HA1 := Hq (hA.below hb1)
 have HDO := Hq hdo
 have HTY := Hq hty
 have HRUN := Hq hrun
 have HH0 := Hq h0
 have HAL := Hq hal
 have HLO := Hq hloc
 have HAN := Hq han
 have q0 : (fuel < 0) = False := by simp; omega
 clear hC hF hB hA hck hcp hm hdo hty hrun hb1 h0 hal hloc han
 go_enter Tryz.func12, Tryz.ntmps12
 go_upto_region 1 with fail
 rw [<- hw1]
 clear hw1
 go_wp2_with fail
 refine HRD.out.mono ?_
 rintro e w2 ⟨⟨v2, rfl⟩, hb2, hok⟩
 obtain ⟨b, he, hw2⟩ := hok HCK.out
 rw [HCK.out, errOf_zero] at he |-
 obtain rfl : v2 = some b := by simpa using he
 have HW2 := Hq hw2
 have HB2 := Hq hb2
 have HN2 := Hq (HN1.out.below hb2)
 have HT2 := Hq (HT1.out.below hb2)
 have HR2 := Hq (HR1.out.below hb2)
 have hca := hw2.at_.2 cp (zhj HCP.out).2
 have hlk := zcn hw2.at_ (n := c) (by unfold maxLen; omega) HCP.out false
 simp only [Bool.false_eq_true, if_false] at hlk
 have hml : cp.1.meths.length <= 8 := (zir hw2.good (hw2.mem (zhj HCP.out).2)).2.2.2.2
 have HIX := Hq (zrk cp.1.meths cp.2.ma cp.2.mc cp.2.ps w2 #[.pointer (some ⟨w.heap.size, 0, none⟩), .pointer (some ⟨w.heap.size + 1, 0, none⟩)] (fun x => x.nm == m.nm && x.ty == m.ty) hca.2.2 (by omega) (fun k x p _ _ W hW => (zvt x p m.nm m.ty w.heap.size (w.heap.size + 1) W (HN2.out.below hW) (HT2.out.below hW)).mono (fun e w' h => ⟨h.1, zc hW h.2⟩)))
 have HCA := Hq hca
 clear hw2 hb2 hok he hca
 go_wp2_with fail
 refine HIX.out.mono ?_
 rintro e w3 ⟨⟨i, rfl, hi⟩, hb3⟩
 obtain rfl : i = 0 := by
   rcases hi with ⟨_, hno⟩ | ⟨k, rfl, x, hx, _, hno⟩
   . have := hno m (by rw [HMS.out]; simp)
     simp at this
   . cases k with
     | zero => rfl
     | succ k =>
       have := hno m (by rw [HMS.out]; simp)
       simp at this
 have hlk3 := zcn (HW2.out.below hb3).at_ (n := c) (by unfold maxLen; omega) HCP.out false
 simp only [Bool.false_eq_true, if_false] at hlk3
 obtain ⟨bm, offm, qm, hma, hltm, hqm, hmq, d0, d1, d2, d3, d4, d5, d6, d7⟩ := (HCA.out.2.2.below hb3).cells (k := 0) (m := m) (by rw [HMS.out]; rfl)
 have hml1 : (0 : Int) < (cp.1.meths.length : Int) := by rw [HMS.out]; simp
 have HB3 := Hq hb3
 have HMQ := Hq hmq
 rw [hst] at d2
 simp only [Nat.zero_mul, Nat.add_zero] at d0 d1 d2 d3 d4 d5 d6 d7
 clear hi hb3 hlk hqm hmq
 go_upto_region 8 with fail
 obtain ⟨w4, hw4⟩ : ∃ w4, w4 = w3.alloc (.cells #[.string ⟨⟨m.nm⟩⟩, .string ⟨⟨m.ty⟩⟩, .bool true, .bool m.abst, .bool m.priv, .int .i64 m.loc, .slice qm.ca m.code.length qm.cc, .slice qm.ha m.hs.length qm.hc] 45) := ⟨_, rfl⟩
 have hb4 : Below w3.heap.size w3 w4 := by rw [hw4]; exact ze (Below.refl _ _) _
 have HM4 := Hq (show Blk w4 w3.heap.size 45 #[.string ⟨⟨m.nm⟩⟩, .string ⟨⟨m.ty⟩⟩, .bool true, .bool m.abst, .bool m.priv, .int .i64 m.loc, .slice qm.ca m.code.length qm.cc, .slice qm.ha m.hs.length qm.hc] by rw [hw4]; exact zg _ _ _ _ rfl)
 have HB4 := Hq (zc HB3.out hb4)
 have HMQ4 := Hq (HMQ.out.below hb4)
 have HW4 := Hq (HW2.out.below HB4.out)
 have HBB4 := Hq (zc (zc HB1.out HB2.out) HB4.out)
 rw [<- hw4]
 clear hw4 hb4 hlk3 hma d0 d1 d2 d3 d4 d5 d6 d7
 have d2 := HM4.out.cell 2
 have d9 := HM4.out.lt
 have t0 := (HT2.out.below HB4.out).cell 0
 have t1 := (HT2.out.below HB4.out).lt
 have f0 : decide (fuel < 0) = false := by simp; omega
 have f1 : decide (2000 < fuel) = false := by simp; omega
 have f2 : ¬ fuel < 0 := by omega
 have f3 : ¬ 2000 < fuel := by omega
 go_upto_region 12 with fail
 go_wp2_with fail
 refine (zat m.ty (by omega) w4).mono ?_
 rintro e w5 ⟨hb5, ⟨rfl, hn⟩ | ⟨v, A', g', rfl, hmo, ho⟩⟩
 . exact absurd HTY.out (hn _ _)
 obtain ⟨rfl, rfl⟩ := zap hmo HTY.out
 obtain ⟨Av, Ac, rfl, hrA⟩ := zl ho
 rw [<- HAL.out]
 have HB5 := Hq hb5
 have HRA := Hq hrA
 have HM5 := Hq (HM4.out.below hb5)
 have HBB5 := Hq (zc HBB4.out hb5)
 have hal8 : args.length <= 8 := by have := HAN.out; omega
 clear hb5 ho hrA hmo d2 d9 t0 t1
 go_wp2_with fail
 go_loopw [82] (fun i wr => ∃ k : Nat, k <= args.length /\ i = .int .i64 k /\ Below w5.heap.size w5 wr) (fun i _ => args.length - (RowKit.intOf i).toNat)
 case atStart => exact ⟨0, by omega, rfl, Below.refl _ _⟩
 case round =>
   obtain ⟨k, hk, rfl, hb⟩ := hrel
   have HBr := Hq hb
   by_cases hlk : k < args.length
   . obtain ⟨x, hx⟩ : ∃ x, args[k]? = some x := ⟨_, List.getElem?_eq_getElem hlk⟩
     obtain ⟨t, ht⟩ : ∃ t, A'[k]? = some t := ⟨_, List.getElem?_eq_getElem (by have := HAL.out; omega)⟩
     have hao := HDO.out k x t hx ht
     obtain ⟨b6, off6, ha6, hl6, v0, v1⟩ := (HA1.out.below (zc (zc (zc HB2.out HB4.out) HB5.out) hb)).cells hx
     obtain ⟨b7, off7, ha7, hl7, c0⟩ := zbr (HRA.out.below hb) ht
     obtain ⟨wq, hwq⟩ : ∃ wq, wq = wr.alloc (.cells #[.int .i64 x.kind, .int .i64 x.n] 54) := ⟨_, rfl⟩
     have hbq : Below wr.heap.size wr wq := by rw [hwq]; exact ze (Below.refl _ _) _
     have HV := Hq (show Blk wq wr.heap.size 54 #[.int .i64 x.kind, .int .i64 x.n] by rw [hwq]; exact zg _ _ _ _ rfl)
     have HBQ := Hq hbq
     have HDD := Hq (fun W => z1n b hao W)
     unfold zju at HDD
     have HGR := Hq (fun (d : Nat) (os : Array Obj) => below_regrown wq d os)
     have gv0 := fun (d : Nat) (os : Array Obj) => (show (grow (redrawn wq d) os).cell? ⟨wr.heap.size, 0, none⟩ = some (.int .i64 x.kind) from (HV.out.below (HGR.out d os)).cell 0)
     have gv1 := fun (d : Nat) (os : Array Obj) => (show (grow (redrawn wq d) os).cell? ⟨wr.heap.size, 1, none⟩ = some (.int .i64 x.n) from (HV.out.below (HGR.out d os)).cell 1)
     have gc0 := fun (d : Nat) (os : Array Obj) => (show (grow (redrawn wq d) os).cell? ⟨b7, off7 + k, none⟩ = some (.string ⟨⟨t⟩⟩) from ((HGR.out d os).cell (p := ⟨b7, off7 + k, none⟩) (by have := hbq.size; show b7 < _; omega)).trans ((hbq.cell (p := ⟨b7, off7 + k, none⟩) hl7).trans c0))
     have hj0 : (0 : Int) <= (k : Int) := Int.natCast_nonneg _
     have hji : (k : Int) < (args.length : Int) := by omega
     rw [ha6, ha7]
     clear hx ht hao hb hbq
     go_upto_region 20 with fail
     rw [<- hwq]
     clear hwq
     refine wp_region_quiet_below (by kernel_rfl) (by kernel_rfl) ?_
     repeat (first | go_big_quiet_step (exact Calls.regrown_of (HDD.out _)) | quiet_step (exact Calls.regrown_of (HDD.out _)))
     refine wpQuiet_nil ?_
     intro _ hw'
     obtain ⟨⟨dq, osq⟩, hw''⟩ := hw'
     subst hw''
     have HBN := Hq (zc HBr.out (zc HBQ.out (HGR.out dq osq)))
     clear gv0 gv1 gc0
     go_wp2_with fail
     go_roundw
     case rel => exact ⟨k + 1, by omega, by go_num, HBN.out⟩
     case measure => simp [RowKit.intOf]; omega
   . obtain rfl : k = args.length := by omega
     obtain ⟨w6, hw6⟩ : ∃ w6, w6 = wr.alloc (.cells (zbo b (.slice none 0 0) (.slice none 0 0) 0 0 [] 0 false) 86) := ⟨_, rfl⟩
     have hb6 : Below wr.heap.size wr w6 := by rw [hw6]; exact ze (Below.refl _ _) _
     have HK6 := Hq (show Blk w6 wr.heap.size 86 (zbo b (.slice none 0 0) (.slice none 0 0) 0 0 [] 0 false) by rw [hw6]; exact zg _ _ _ _ rfl)
     have hs6 : w6.heap.size = wr.heap.size + 1 := by rw [hw6]; simp
     have HB6 := Hq hb6
     have HM6 := Hq ((HM5.out.below hb).below hb6)
     have HEN := Hq (ztb wr.heap.size b (.slice none 0 0) 0 c m qm n args aq w6 HK6.out HLO.out hn8 ((HA1.out.below (zc (zc (zc HB2.out HB4.out) HB5.out) hb)).below hb6) HAN.out HH0.out)
     have HRN := Hq (fun w7 c' lb cs cc lq hM => HRUN.out wr w7 wr.heap.size c' lb cs cc b lq qm (zc HBB5.out hb) ((HW4.out.below HB5.out).below hb) ((HMQ4.out.below HB5.out).below hb) hM)
     have HBW := Hq (zc HBB5.out hb)
     have hRr := ((((HR1.out.below HB2.out).below HB4.out).below HB5.out).below hb).lt
     have HR6 := Hq (((((HR1.out.below HB2.out).below HB4.out).below HB5.out).below hb).below hb6)
     have HS6 := Hq hs6
     unfold zca at HEN
     rw [hst] at HEN
     have m0 := HM6.out.cell 0
     have m1 := HM6.out.cell 1
     have m2 := HM6.out.cell 2
     have m3 := HM6.out.cell 3
     have m4 := HM6.out.cell 4
     have m5 := HM6.out.cell 5
     have m6 := HM6.out.cell 6
     have m7 := HM6.out.cell 7
     have m9 := HM6.out.lt
     clear hb hb6 hs6
     have hmac : zbo b (.slice none 0 0) (.slice none 0 0) 0 0 [] 0 false = #[.map (some b), .slice none 0 0, .slice none 0 0, .int .i64 0, .int .i64 0, .string ⟨#[]⟩, .int .i64 0, .bool false] := rfl
     rw [hmac] at hw6
     clear hmac
     go_upto_region 24 with fail
     rw [<- hw6]
     clear hw6
     go_wp2_with fail
     refine HEN.out.mono ?_
     rintro e w7 ⟨rfl, c', cs, cc, hk7, hr7, hca7, hg7⟩
     have HMA := Hq (show zd7 wr w7 wr.heap.size c' (w6.heap.size + 1) cs cc b (.slice none 0 0) 0 c m qm 0 (zsa args n) [] (some ⟨w6.heap.size + 1, 0, none⟩, n) (none, 0) from
       ⟨hk7, zjb hr7 HB6.out.size, ⟨hca7.blk, zjb hca7.low HB6.out.size, zjb hca7.sow HB6.out.size, hca7.ap, hca7.lb, Nat.le_trans HB6.out.size hca7.cB⟩, Nat.le_refl _, zj HB6.out hg7 (Nat.le_refl _)⟩)
     have HR7 := Hq (zac hg7 HR6.out (by omega))
     clear hk7 hr7 hca7 hg7 m0 m1 m2 m3 m4 m5 m6 m7 m9
     go_wp2_with fail
     refine (HRN.out w7 c' (w6.heap.size + 1) cs cc _ HMA.out).mono ?_
     rintro e w8 ⟨rfl, ⟨hv8, cv8, hk8⟩, hkt8, hb8⟩
     have HR8 := Hq (hkt8 _ _ _ (by unfold zsh; decide) HR7.out)
     have HB8 := Hq (HBW.out.trans (hb8.mono HBW.out.size))
     have k3 := hk8.cell 3
     have k4 := hk8.cell 4
     have k5 := hk8.cell 5
     have k6 := hk8.cell 6
     have k9 := hk8.lt
     unfold zbo at k3 k4 k5 k6
     have r0 := HR8.out.cell 0
     have r1 := HR8.out.cell 1
     have r2 := HR8.out.cell 2
     have r3 := HR8.out.cell 3
     have r4 := HR8.out.frozen 0
     have r5 := HR8.out.frozen 1
     have r6 := HR8.out.frozen 2
     have r7 := HR8.out.frozen 3
     have r8 := HR8.out.lt
     clear hk8 hkt8 hb8
     have hne8 : wr.heap.size ≠ w.heap.size + 1 + 1 := by omega
     have HT9 := Hq (zm (zm (zm (zm HR8.out 0 (.int .i64 tk)) 1 (.int .i64 tn)) 2 (.string ⟨⟨th⟩⟩)) 3 (.int .i64 s))
     have HB9 := Hq ((((HB8.out.setCell (p := ⟨w.heap.size + 1 + 1, 0, none⟩) (by show _ <= w.heap.size + 1 + 1; omega) (.int .i64 tk)).setCell (p := ⟨w.heap.size + 1 + 1, 1, none⟩) (by show _ <= w.heap.size + 1 + 1; omega) (.int .i64 tn)).setCell (p := ⟨w.heap.size + 1 + 1, 2, none⟩) (by show _ <= w.heap.size + 1 + 1; omega) (.string ⟨⟨th⟩⟩)).setCell (p := ⟨w.heap.size + 1 + 1, 3, none⟩) (by show _ <= w.heap.size + 1 + 1; omega) (.int .i64 s))
     go_wp2_with fail
     have y0 := HT9.out.cell 0
     have y1 := HT9.out.cell 1
     have y2 := HT9.out.cell 2
     have y3 := HT9.out.cell 3
     exact bodyPost_ret (v := .tuple #[zpw tk tn th s, .nilIface]) (by simp [results, Tryz.results12, go_sem, zpw, y0, y1, y2, y3]) rfl ⟨rfl, HB9.out⟩
end Go.Proofs.YtbnkckjdgpiggaaGreatDoor
