import Derived.Test.YtbnkckjdgpiggaaGreatDoorCk
import Derived.Test.YtbnkckjdgpiggaaGreatDoorMkb
import Derived.Test.YtbnkckjdgpiggaaGreatDoorTc
import Derived.Test.YtbnkckjdgpiggaaGreatDoorRs
import Derived.Test.YtbnkckjdgpiggaaGreatDoorFv
namespace Go.Proofs.YtbnkckjdgpiggaaGreatDoor
set_option maxRecDepth 100000
set_option maxHeartbeats 16000000
set_option linter.unusedVariables false
set_option linter.unusedSimpArgs false
open Go.RowKit Go.Shelf Go.Lib Go.Sort
theorem zs3 (a : Option Addr) (n cap : Nat) (t : Nm) (w : World) : Calls Tryz.prog 10 #[.slice a n cap, .string ⟨⟨t⟩⟩] w fun e w' => e = .returned (.agg #[.string ⟨⟨tmN⟩⟩, .string ⟨⟨t⟩⟩, .bool true, .bool false, .bool false, .int .i64 8, .slice a n cap, .slice none 0 0]) /\ Below w.heap.size w w' := by
 have HB := Hq (fun o => ze (Below.refl w.heap.size w) o)
 have HN := Hq (fun cs => zg w w.heap.size 45 cs rfl)
 go_enter Tryz.func10, Tryz.ntmps10
 go_wp2_with fail
 have y := HN.out #[.string ⟨⟨tmN⟩⟩, .string ⟨⟨t⟩⟩, .bool true, .bool false, .bool false, .int .i64 8, .slice a n cap, .slice none 0 0]
 have y0 := y.cell 0
 have y1 := y.cell 1
 have y2 := y.cell 2
 have y3 := y.cell 3
 have y4 := y.cell 4
 have y5 := y.cell 5
 have y6 := y.cell 6
 have y7 := y.cell 7
 exact bodyPost_ret (v := .agg #[.string ⟨⟨tmN⟩⟩, .string ⟨⟨t⟩⟩, .bool true, .bool false, .bool false, .int .i64 8, .slice a n cap, .slice none 0 0]) (by simp [results, Tryz.results10, go_sem, tmN] at y0 y1 y2 y3 y4 y5 y6 y7 |-) rfl ⟨rfl, HB.out _⟩
theorem z9d {W : World} {gk gm : Nat} {c : List zal} {g : Nm} {a : Option Addr} {cap : Nat} (hk : Blk W gk 50 (zb7 (tcC c g) (zpu gm ⟨a, cap, none, 0⟩)).toArray) (hm : Blk W gm 45 (zj4 (tcM c g) ⟨a, cap, none, 0⟩)) (hc : zcy W a cap c) : za7 W (some ⟨gk, 0, none⟩) 1 [tcC c g] [zpu gm ⟨a, cap, none, 0⟩] := by
 refine ⟨rfl, zck (L := [zb7 (tcC c g) (zpu gm ⟨a, cap, none, 0⟩)]) (by simpa using hk) (by simp) (by intro c hc; rw [List.mem_singleton.1 hc]; rfl), fun k c' p hkc hp => ?_⟩
 match k with
 | 0 =>
   simp at hkc hp
   subst hkc hp
   refine ⟨⟨Nat.le_refl _, Or.inl rfl⟩, ⟨Nat.le_refl _, Or.inl rfl⟩, rfl, zck (L := [zfj (tcM c g) ⟨a, cap, none, 0⟩]) (by rw [List.flatten_singleton]; exact hm) (Nat.le_refl _) (by intro c hc; rw [List.mem_singleton.1 hc]; rfl), fun k m' p' hm' hp' => ?_⟩
   match k with
   | 0 =>
     simp [tcC] at hm'
     simp [zpu] at hp'
     subst hm' hp'
     exact ⟨hc, ⟨Nat.le_refl _, Or.inl rfl⟩⟩
   | k + 1 => simp [tcC] at hm'
 | k + 1 => simp at hkc
theorem z7s {w : World} {h : Hd} (H : zh0 w h) : HdI h := by
 induction H with
 | mk h hp hs ht hl hm hk haI hsub ih => exact ⟨h, haI, ih⟩
def zkc (w : World) (A : List Nm) (vs : List Int) (j : Nat) (L : List CQ) : Prop := L.length = j /\ L.map Prod.fst = (List.zipWith (fun t x => [zd6 t x]) A vs).take j /\ ∀ p ∈ L, zft w p.2.1 p.2.2 p.1
theorem zkc.below {w w' : World} {A : List Nm} {vs : List Int} {j : Nat} {L : List CQ} (h : zkc w A vs j L) (hb : Below w.heap.size w w') : zkc w' A vs j L := ⟨h.1, h.2.1, fun p hp => (h.2.2 p hp).below hb⟩
theorem zkc.step {w : World} {A : List Nm} {vs : List Int} {j : Nat} {L : List CQ} {t : Nm} {x : Int} {q : Option Addr × Nat} (h : zkc w A vs j L) (ht : A[j]? = some t) (hx : vs[j]? = some x) (hq : zft w q.1 q.2 [zd6 t x]) : zkc w A vs (j + 1) (L ++ [([zd6 t x], q)]) := by
 refine ⟨by simp [h.1], ?_, fun p hp => ?_⟩
 . rw [List.map_append, h.2.1, List.take_add_one, List.getElem?_zipWith, ht, hx]; rfl
 . rcases List.mem_append.1 hp with hp | hp
   . exact h.2.2 p hp
   . rw [List.mem_singleton.1 hp]; exact hq
theorem z6m {h : Hd} {A : List Nm} {g : Nm} {vs : List Int} {n : Int} (hr : RH h A g) (hl : vs.length = A.length) (hm : zbw ofO h.size h vs = some n) :
   zro ofO (zam h.size h (List.zipWith (fun t x => [zd6 t x]) A vs)) [] [(kdT g, n)] := by
 have := zes z5u h.size hr (Nat.le_refl _) (zv2 ofO hl) hm []
 simpa using this
theorem z6g {h : Hd} {A : List Nm} {g : Nm} {vs : List Int} (hr : RH h A g) (hi : HdI h) (hA : ∀ t ∈ A, zi t) (hv : ∀ x ∈ vs, -9223372036854775808 <= x /\ x <= 9223372036854775807) : ∀ x ∈ zam h.size h (List.zipWith (fun t x => [zd6 t x]) A vs), z05 x := by
 refine zgd h.size hr hi (Nat.le_refl _) (fun d hd x hx => ?_)
 obtain ⟨j, hj⟩ := List.getElem?_of_mem hd
 rw [List.getElem?_zipWith] at hj
 cases ht : A[j]? with
 | none => rw [ht] at hj; simp at hj
 | some t =>
   cases hy : vs[j]? with
   | none => rw [ht, hy] at hj; simp at hj
   | some y =>
     rw [ht, hy] at hj
     cases hj
     rw [List.mem_singleton.1 hx]
     refine ⟨?_, hv y (List.mem_of_getElem? hy), rfl, rfl, rfl, fun h9 => absurd h9 (by simp [zd6]), Or.inl rfl⟩
     have := (zeb (hA t (List.mem_of_getElem? ht))).2
     show t.length <= 1000
     omega
theorem z3f {h : Hd} {A : List Nm} {g : Nm} {vs : List Int} (hr : RH h A g) (h12 : h.size <= 12) : (zam h.size h (List.zipWith (fun t x => [zd6 t x]) A vs)).length <= 8192 := by
 refine zwm hr h12 (fun d hd => ?_)
 obtain ⟨j, hj⟩ := List.getElem?_of_mem hd
 rw [List.getElem?_zipWith] at hj
 cases ht : A[j]? with
 | none => rw [ht] at hj; simp at hj
 | some t =>
   cases hy : vs[j]? with
   | none => rw [ht, hy] at hj; simp at hj
   | some y =>
     rw [ht, hy] at hj
     cases hj
     simp
theorem z4i {c : List zal} {g : Nm} {kd r : Int} (hg : zdb g = true) (hin : ∀ x ∈ c, z05 x) (hl : c.length <= 10000) (hr : zro ofO c [] [(kd, r)]) (gk gm : Nat) (q : zaf) (w : World) (hC : za7 w (some ⟨gk, 0, none⟩) 1 [tcC (c ++ [ze1]) g] [zpu gm q]) (hF : zaw w) (hck : zej [tcC (c ++ [ze1]) g] = 0) :
   Calls Tryz.prog 12 #[.slice (some ⟨gk, 0, none⟩) 1 1, .string ⟨⟨zp1⟩⟩, .string ⟨⟨tmN⟩⟩, .string ⟨⟨40 :: 41 :: g⟩⟩, .slice none 0 0, .int .i64 1000] w fun e w' => e = .returned (.tuple #[zpw kd r [] ((c.length + 1 : Nat) : Int), .nilIface]) /\ Below w.heap.size w w' := by
 have hlen := z7c hck
 rw [List.length_append] at hlen
 simp only [List.length_singleton] at hlen
 have hgl : g.length <= 1000 := zo3 hg
 exact zlu [tcC (c ++ [ze1]) g] [zpu gm q] (some ⟨gk, 0, none⟩) 1 zp1 [] (none, 0) 1000 w hC hF (z32 hg (fun x hx => by
     rcases List.mem_append.1 hx with hx | hx
     . exact Or.inl (hin x hx)
     . exact Or.inr (List.mem_singleton.1 hx)) (by simp; omega)) ⟨Nat.le_refl _, Or.inl rfl⟩ hck (by simp [zp1])
   (tcC (c ++ [ze1]) g, zpu gm q) (z40 _ _ _) (tcM (c ++ [ze1]) g) [] rfl rfl [] g (z9b _ hg) (by simp [tcM]; have := hgl; unfold zdb at hg; rw [Bool.or_eq_true, beq_iff_eq, beq_iff_eq] at hg; rcases hg with rfl | rfl <;> simp) rfl (fun j v t h => by simp at h)
   (by omega) (by omega) 8 rfl (by omega) (by simp) (Or.inr rfl) kd r [] ((c.length + 1 : Nat) : Int)
   (fun w5 w6 K c' lb cs cc b lq q' _ hW hM hmac => z73 c g kd r hin (by omega) hr w5 w6 K c' lb cs cc b zp1 q' lq _ hmac hM.1)
theorem zm6 (h : Hd) (vs : List Int) (a : Option Addr) (cap : Nat) (w : World) (H : zh0 w h) (hv : zab w a cap (vs.map (Value.int .i64))) (hvI : ∀ x ∈ vs, -9223372036854775808 <= x /\ x <= 9223372036854775807) (hvl : vs.length <= 1048576) (hF : zaw w) :
   Calls Tryz.prog 3 #[hdV h, .slice a vs.length cap] w fun e w' => e = .returned (.bool true) /\ Below w.heap.size w w' := by
 obtain ⟨W, hW⟩ : ∃ W, W = w.alloc (.cells #[.int .i64 h.kind, .string ⟨⟨h.ty⟩⟩, .int .i64 h.a, .slice h.pa h.pos.length h.pc, .slice h.sa h.subs.length h.sc] 25) := ⟨_, rfl⟩
 have HB := Hq (show Below w.heap.size w W by rw [hW]; exact ze (Below.refl _ _) _)
 have HX := Hq (show zi7 W w.heap.size h by rw [hW]; exact zg _ _ _ _ rfl)
 have HF := Hq hF
 have HV := Hq hv
 have HH := Hq H
 have HI := Hq hvI
 have HCC := Hq (fun W' (hb : Below w.heap.size w W') => zsx h vs a cap W' (H.moved hb) (hv.below hb) (by omega))
 have HTO := Hq (fun W' (hb : Below w.heap.size w W') => zob H W' hb)
 have HSZ := Hq (fun W' (hb : Below w.heap.size w W') => zls H W' hb)
 have HFV := Hq (zvk W (hF.below HB.out))
 clear H hv hvI hF
 unfold hdV at *
 go_enter Tryz.func3, Tryz.ntmps3
 go_upto_region 1 with fail
 rw [<- hW]
 clear hW
 go_wp2_with fail
 refine HFV.out.mono ?_
 rintro e w1 ⟨rfl, hb1⟩
 have HB1 := Hq (zc HB.out hb1)
 have HX1 := Hq (HX.out.below hb1)
 obtain ⟨c0, c1, c2, c3, c4⟩ := HX1.out.cells
 have c9 := HX1.out.lt
 clear hb1 HFV
 go_wp2_with fail
 refine (HCC.out w1 HB1.out).mono ?_
 rintro e w2 ⟨hb2, ⟨z, rfl⟩ | ⟨n, A, g, rfl, h30, hty, hmo, hrh, hnum, hln, hmd⟩⟩
 . have HB2 := Hq (zc HB1.out hb2)
   have HX2 := Hq (HX1.out.below hb2)
   clear hb2 c0 c1 c2 c3 c4 c9 HCC
   obtain ⟨c0, c1, c2, c3, c4⟩ := HX2.out.cells
   have c9 := HX2.out.lt
   go_wp2_with fail
   refine (HTO.out w2 HB2.out).mono ?_
   rintro e w3 ⟨hb3, t, k, rfl, hk⟩
   have HB3 := Hq (zc HB2.out hb3)
   clear hb3 hk c0 c1 c2 c3 c4 c9
   go_wp2_with fail
   go_ret
   exact ⟨rfl, HB3.out⟩
 have HB2 := Hq (zc HB1.out hb2)
 have HX2 := Hq (HX1.out.below hb2)
 have HIN := Hq (show h.typed = (0, zaz A g) /\ zk (zaz A g) A g /\ RH h A g /\ zdb g = true /\ vs.length = A.length /\ zbw ofO h.size h vs = some n from ⟨hty, hmo, hrh, hnum, hln, hmd⟩)
 clear hb2 c0 c1 c2 c3 c4 c9 HCC hty hmo hrh hnum hln hmd
 obtain ⟨c0, c1, c2, c3, c4⟩ := HX2.out.cells
 have c9 := HX2.out.lt
 go_wp2_with fail
 refine (HTO.out w2 HB2.out).mono ?_
 rintro e w3 ⟨hb3, t, k, rfl, hk⟩
 have HB3 := Hq (zc HB2.out hb3)
 have HX3 := Hq (HX2.out.below hb3)
 clear hb3 c0 c1 c2 c3 c4 c9 HTO
 by_cases hk0 : k = 0
 case neg =>
   have q1 : (k == 0) = false := by rw [beq_eq_false_iff_ne]; exact hk0
   have q2 : (k != 0) = true := by rw [bne, q1]; rfl
   clear hk hk0
   go_wp2_with fail
   go_ret
   exact ⟨rfl, HB3.out⟩
 case pos =>
   obtain rfl : t = zaz A g := by have := hk hk0; rw [HIN.out.1] at this; exact (congrArg Prod.snd this).symm
   subst hk0
   clear hk
   obtain ⟨c0, c1, c2, c3, c4⟩ := HX3.out.cells
   have c9 := HX3.out.lt
   have HML := Hq (show (zaz A g).length <= 8388608 by have := zfh h; rw [HIN.out.1] at this; have h2 : (zaz A g).length <= 200 := this; omega)
   obtain ⟨mt, hmt⟩ : ∃ mt, mt = zaz A g := ⟨_, rfl⟩
   rw [<- hmt] at HML |-
   have HMT := Hq hmt
   have HMC := Hq (fun W => zbd mt HML.out W)
   clear hmt
   go_wp2_with fail
   refine (HSZ.out w3 HB3.out).mono ?_
   rintro e w4 ⟨hb4, sz, rfl, hsz⟩
   obtain rfl := hsz h30
   have HB4 := Hq (zc HB3.out hb4)
   have HX4 := Hq (HX3.out.below hb4)
   clear hb4 hsz c0 c1 c2 c3 c4 c9 HSZ
   by_cases h12 : 12 < h.size
   . have q12 : (12 : Int) < (h.size : Int) := by omega
     go_wp2_with fail
     go_ret
     exact ⟨rfl, HB4.out⟩
   have q12 : ¬ (12 : Int) < (h.size : Int) := by omega
   go_wp2_with fail
   refine (HMC.out w4).mono ?_
   rintro e w5 ⟨hb5, ⟨rfl, hno⟩ | ⟨v, A', g', rfl, hok, ho⟩⟩
   . rw [HMT.out] at hno
     exact absurd HIN.out.2.1 (hno _ _)
   rw [HMT.out] at hok
   obtain ⟨rfl, rfl⟩ := zap hok HIN.out.2.1
   obtain ⟨ta, tc, rfl, hts⟩ := zl ho
   have HTS := Hq hts
   have HB5 := Hq (zc HB4.out hb5)
   have HX5 := Hq (HX4.out.below hb5)
   have hA5 : A'.length <= 5 := hok.2.2.1
   have HLN := Hq HIN.out.2.2.2.2.1
   have hv5 : vs.length <= 5 := by have := HLN.out; omega
   clear hb5 hok ho hts HMC q12
   obtain ⟨w6, hw6⟩ : ∃ w6, w6 = w5 := ⟨w5, rfl⟩
   subst hw6
   go_wp2_with fail
   go_loopw [13, 14] (fun l i wr => ∃ j : Nat, j <= vs.length /\ i = .int .i64 j /\ (∃ L : List CQ, Hid (wr.ownsRow w6.heap.size 41 1 l j (L.map slV)) /\ Hid (zkc wr A' vs j L)) /\ Below w6.heap.size w6 wr) (fun _ i _ => vs.length - (RowKit.intOf i).toNat)
   case atStart => exact ⟨0, by omega, rfl, ⟨[], Hq ⟨by simp, Or.inl ⟨rfl, rfl⟩⟩, Hq ⟨rfl, rfl, by simp⟩⟩, Below.refl _ _⟩
   case round =>
     obtain ⟨j, hj, rfl, ⟨L, HO, HAT⟩, hbr⟩ := hrel
     obtain ⟨la, lc, rfl, _⟩ := zy HO.out
     have HBR := Hq hbr
     have HBW := Hq (zc HB5.out hbr)
     have hsr := hbr.size
     clear hbr
     by_cases hlj : j < vs.length
     . obtain ⟨x, hx⟩ : ∃ x, vs[j]? = some x := ⟨_, List.getElem?_eq_getElem hlj⟩
       obtain ⟨ty, ht⟩ : ∃ ty, A'[j]? = some ty := ⟨_, List.getElem?_eq_getElem (by have := HLN.out; omega)⟩
       obtain ⟨vb, vo, hva, hvlt, hvc⟩ := zkt (HV.out.below HB5.out) hx
       obtain ⟨tb, to_, hta, htlt, htc⟩ := zeq HTS.out ht
       have hjA : (j : Int) < (A'.length : Int) := by have := HLN.out; omega
       have hjv : (j : Int) < (vs.length : Int) := by omega
       have HXT := Hq (show vs[j]? = some x /\ A'[j]? = some ty from ⟨hx, ht⟩)
       have HSC := Hq (fun W' (hb : Below w6.heap.size w6 W') => show W'.cell? ⟨vb, vo + j, none⟩ = some (.int .i64 x) /\ W'.cell? ⟨tb, to_ + j, none⟩ = some (.string ⟨⟨ty⟩⟩) from ⟨(hb.cell (p := ⟨vb, vo + j, none⟩) hvlt).trans hvc, (hb.cell (p := ⟨tb, to_ + j, none⟩) htlt).trans htc⟩)
       rw [hva, hta]
       clear hx ht hva hta hvlt hvc htlt htc
       have HD1 := Hq (show Below w6.heap.size w6 (wr.drew.alloc (.cells #[.int .i64 2, .int .i64 x, .int .i64 0, .string ⟨⟨ty⟩⟩, .string ⟨#[]⟩, .string ⟨#[]⟩] 40)) from HBR.out.drew.alloc hsr _)
       have HBD := Hq (show Below w6.heap.size w6 ((wr.drew.alloc (.cells #[.int .i64 2, .int .i64 x, .int .i64 0, .string ⟨⟨ty⟩⟩, .string ⟨#[]⟩, .string ⟨#[]⟩] 40)).alloc (.cells #[.slice (some ⟨wr.heap.size, 0, none⟩) 1 1] 41)) from HD1.out.alloc HD1.out.size _)
       have HD2 := HBD
       have HB2W := Hq (show Below wr.heap.size wr ((wr.drew.alloc (.cells #[.int .i64 2, .int .i64 x, .int .i64 0, .string ⟨⟨ty⟩⟩, .string ⟨#[]⟩, .string ⟨#[]⟩] 40)).alloc (.cells #[.slice (some ⟨wr.heap.size, 0, none⟩) 1 1] 41)) from ((Below.refl _ _).drew.alloc (Nat.le_refl _) _).alloc (by simp) _)
       have HO2 := Hq (show ((wr.drew.alloc (.cells #[.int .i64 2, .int .i64 x, .int .i64 0, .string ⟨⟨ty⟩⟩, .string ⟨#[]⟩, .string ⟨#[]⟩] 40)).alloc (.cells #[.slice (some ⟨wr.heap.size, 0, none⟩) 1 1] 41)).ownsRow w6.heap.size 41 1 (.slice la j lc) j (L.map slV) from zad HO.out HB2W.out)
       have HAT2 := Hq (HAT.out.below HB2W.out)
       have HK2 := Hq (show Blk ((wr.drew.alloc (.cells #[.int .i64 2, .int .i64 x, .int .i64 0, .string ⟨⟨ty⟩⟩, .string ⟨#[]⟩, .string ⟨#[]⟩] 40)).alloc (.cells #[.slice (some ⟨wr.heap.size, 0, none⟩) 1 1] 41)) wr.heap.size 40 (z6 (zd6 ty x)).toArray from (zg wr.drew wr.heap.size 40 _ rfl).alloc _)
       have HQ2 := Hq (show zft ((wr.drew.alloc (.cells #[.int .i64 2, .int .i64 x, .int .i64 0, .string ⟨⟨ty⟩⟩, .string ⟨#[]⟩, .string ⟨#[]⟩] 40)).alloc (.cells #[.slice (some ⟨wr.heap.size, 0, none⟩) 1 1] 41)) (some ⟨wr.heap.size, 0, none⟩) 1 [zd6 ty x] from
         ⟨zck (L := [z6 (zd6 ty x)]) (by rw [List.flatten_singleton]; exact HK2.out) (Nat.le_refl _) (by intro c hc; rw [List.mem_singleton.1 hc]; rfl), fun ad e => by cases e; exact ⟨_, HK2.out⟩⟩)
       have HV2 := Hq (show zab ((wr.drew.alloc (.cells #[.int .i64 2, .int .i64 x, .int .i64 0, .string ⟨⟨ty⟩⟩, .string ⟨#[]⟩, .string ⟨#[]⟩] 40)).alloc (.cells #[.slice (some ⟨wr.heap.size, 0, none⟩) 1 1] 41)) (some ⟨wr.heap.size + 1, 0, none⟩) 1 (([([zd6 ty x], (some ⟨wr.heap.size, 0, none⟩, 1))] : List CQ).map slV) from
         ⟨by simp, Or.inr ⟨wr.heap.size + 1, 0, rfl, by simp, fun i y hy => by rw [Nat.zero_add]; exact ((zg (wr.drew.alloc (.cells #[.int .i64 2, .int .i64 x, .int .i64 0, .string ⟨⟨ty⟩⟩, .string ⟨#[]⟩, .string ⟨#[]⟩] 40)) (wr.heap.size + 1) 41 #[.slice (some ⟨wr.heap.size, 0, none⟩) 1 1] (by simp)).cell i).trans (by simpa [slV] using hy)⟩⟩)
       have hs2 := HBD.out.size
       have hv5j : j <= 5 := by omega
       go_upto_region 13 with fail
       refine wp_region_held_drew (S := fun W' => W'.cell? ⟨vb, vo + j, none⟩ = some (.int .i64 x) /\ W'.cell? ⟨tb, to_ + j, none⟩ = some (.string ⟨⟨ty⟩⟩)) (by kernel_rfl) ?_ (fun hHeld => ?_)
       . exact HSC.out _ HBR.out.drew
       refine wpAnyH_take (i := 0) (oi := { dst := some 58, op := Op.move (Operand.tmp 13), type := 38, pos := "top.go:176", after := #[], guard := none }) (v := ?_) rfl (by kernel_rfl) (by kernel_rfl) (by kernel_rfl) (fun _ _ _ h => h) (Or.inl ⟨by rfl, ?_⟩) (by assumption) ?_
       rotate_left
       . (intro w hSw; (try obtain ⟨s0, s1⟩ := hSw); go_simp; try with_reducible rfl)
       refine wpAnyH_take (i := 1) (oi := { dst := some 59, op := Op.move (Operand.tmp 1), type := 22, pos := "top.go:176", after := #[], guard := none }) (v := ?_) rfl (by kernel_rfl) (by kernel_rfl) (by kernel_rfl) (fun _ _ _ h => h) (Or.inl ⟨by rfl, ?_⟩) (by assumption) ?_
       rotate_left
       . (intro w hSw; (try obtain ⟨s0, s1⟩ := hSw); go_simp; try with_reducible rfl)
       refine wpAnyH_take (i := 2) (oi := { dst := some 60, op := Op.move (Operand.tmp 14), type := 3, pos := "top.go:176", after := #[], guard := none }) (v := ?_) rfl (by kernel_rfl) (by kernel_rfl) (by kernel_rfl) (fun _ _ _ h => h) (Or.inl ⟨by rfl, ?_⟩) (by assumption) ?_
       rotate_left
       . (intro w hSw; (try obtain ⟨s0, s1⟩ := hSw); go_simp; try with_reducible rfl)
       try simp only [Act.put, List.setIfInBounds_toArray, List.set_cons_zero, List.set_cons_succ]
       refine wpAnyH_take (i := 3) (oi := { dst := some 61, op := Op.indexAddr 22 (Operand.tmp 59) (Operand.tmp 60), type := 0, pos := "top.go:176", after := #[{ on := 1, ground := Ground.data }, { on := 2, ground := Ground.data }], guard := none }) (v := ?_) rfl (by kernel_rfl) (by kernel_rfl) (by kernel_rfl) (fun _ _ _ h => h) (Or.inl ⟨by rfl, ?_⟩) (by assumption) ?_
       rotate_left
       . (intro w hSw; (try obtain ⟨s0, s1⟩ := hSw); go_simp; try with_reducible rfl)
       refine wpAnyH_take (i := 4) (oi := { dst := some 62, op := Op.load 3 (Operand.tmp 61), type := 3, pos := "top.go:176", after := #[{ on := 3, ground := Ground.data }], guard := none }) (v := ?_) rfl (by kernel_rfl) (by kernel_rfl) (by kernel_rfl) (fun _ _ _ h => h) (Or.inl ⟨by rfl, ?_⟩) (by assumption) ?_
       rotate_left
       . (intro w hSw; (try obtain ⟨s0, s1⟩ := hSw); go_simp; try with_reducible rfl)
       refine wpAnyH_take (i := 5) (oi := { dst := some 63, op := Op.move (Operand.tmp 10), type := 35, pos := "top.go:176", after := #[], guard := none }) (v := ?_) rfl (by kernel_rfl) (by kernel_rfl) (by kernel_rfl) (fun _ _ _ h => h) (Or.inl ⟨by rfl, ?_⟩) (by assumption) ?_
       rotate_left
       . (intro w hSw; (try obtain ⟨s0, s1⟩ := hSw); go_simp; try with_reducible rfl)
       refine wpAnyH_take (i := 6) (oi := { dst := some 64, op := Op.move (Operand.tmp 14), type := 3, pos := "top.go:176", after := #[], guard := none }) (v := ?_) rfl (by kernel_rfl) (by kernel_rfl) (by kernel_rfl) (fun _ _ _ h => h) (Or.inl ⟨by rfl, ?_⟩) (by assumption) ?_
       rotate_left
       . (intro w hSw; (try obtain ⟨s0, s1⟩ := hSw); go_simp; try with_reducible rfl)
       try simp only [Act.put, List.setIfInBounds_toArray, List.set_cons_zero, List.set_cons_succ]
       refine wpAnyH_take (i := 7) (oi := { dst := some 65, op := Op.indexAddr 35 (Operand.tmp 63) (Operand.tmp 64), type := 0, pos := "top.go:176", after := #[{ on := 5, ground := Ground.data }, { on := 6, ground := Ground.data }], guard := none }) (v := ?_) rfl (by kernel_rfl) (by kernel_rfl) (by kernel_rfl) (fun _ _ _ h => h) (Or.inl ⟨by rfl, ?_⟩) (by assumption) ?_
       rotate_left
       . (intro w hSw; (try obtain ⟨s0, s1⟩ := hSw); go_simp; try with_reducible rfl)
       refine wpAnyH_take (i := 8) (oi := { dst := some 66, op := Op.load 9 (Operand.tmp 65), type := 9, pos := "top.go:176", after := #[{ on := 7, ground := Ground.data }], guard := none }) (v := ?_) rfl (by kernel_rfl) (by kernel_rfl) (by kernel_rfl) (fun _ _ _ h => h) (Or.inl ⟨by rfl, ?_⟩) (by assumption) ?_
       rotate_left
       . (intro w hSw; (try obtain ⟨s0, s1⟩ := hSw); go_simp; try with_reducible rfl)
       refine wpAnyH_take (i := 9) (oi := { dst := some 67, op := Op.build 40 #[(0, Operand.const (Value.int IntKind.i64 2)), (1, Operand.tmp 62), (3, Operand.tmp 66)], type := 40, pos := "top.go:176", after := #[{ on := 4, ground := Ground.data }, { on := 8, ground := Ground.data }], guard := none }) (v := ?_) rfl (by kernel_rfl) (by kernel_rfl) (by kernel_rfl) (fun _ _ _ h => h) (Or.inl ⟨by rfl, ?_⟩) (by assumption) ?_
       rotate_left
       . (intro w hSw; (try obtain ⟨s0, s1⟩ := hSw); go_simp; try with_reducible rfl)
       try simp only [Act.put, List.setIfInBounds_toArray, List.set_cons_zero, List.set_cons_succ]
       refine wpAnyH_ready (rs := [10]) (by kernel_rfl) (by simp) ?_
       refine AllReadyH.cons (o := { dst := some 68, op := Op.buildSlice 41 1 #[(0, Operand.tmp 67)], type := 41, pos := "top.go:176", after := #[{ on := 9, ground := Ground.data }], guard := none }) rfl (fun K hK => ?_) AllReadyH.nil
       go_simp
       try go_wp2_with fail
       refine hK.out _ _ ?_ (fun hHeld => ?_)
       . exact HSC.out _ HD1.out
       clear hK K
       try simp only [Act.put, List.setIfInBounds_toArray, List.set_cons_zero, List.set_cons_succ]
       refine wpAnyH_ready (rs := [11]) (by kernel_rfl) (by simp) ?_
       refine AllReadyH.cons (o := { dst := some 69, op := Op.buildSlice 38 1 #[(0, Operand.tmp 68)], type := 38, pos := "top.go:176", after := #[{ on := 10, ground := Ground.data }], guard := none }) rfl (fun K hK => ?_) AllReadyH.nil
       go_simp
       try go_wp2_with fail
       refine hK.out _ _ ?_ (fun hHeld => ?_)
       . exact HSC.out _ HD2.out
       clear hK K
       try simp only [Act.put, List.setIfInBounds_toArray, List.set_cons_zero, List.set_cons_succ]
       refine wpAnyH_ready (rs := [12]) (by kernel_rfl) (by simp) ?_
       refine AllReadyH.cons (o := { dst := some 70, op := Op.call { callee := Callee.builtin Builtin.append, args := #[Operand.tmp 58, Operand.tmp 69], argTypes := #[38, 38] }, type := 38, pos := "top.go:176", after := #[{ on := 0, ground := Ground.data }, { on := 11, ground := Ground.data }], guard := none }) rfl (fun K hK => ?_) AllReadyH.nil
       refine zdt zrg rfl (.tmp 58) (.tmp 69) rfl w6.heap.size _ j (L.map slV) rfl HO2.out _ 1 (([([zd6 ty x], (some ⟨wr.heap.size, 0, none⟩, 1))] : List CQ).map slV) rfl (zf7 HV2.out rfl) (by omega) (by omega) hs2 ?_
       intro v8 w8 ho8 hg8 hv8
       have HB8 := Hq (show Below w6.heap.size w6 w8 from Below.grown HBD.out hg8 hs2 hv8)
       have HO8 := Hq (show w8.ownsRow w6.heap.size 41 1 v8 (j + 1) ((L ++ [(([zd6 ty x], (some ⟨wr.heap.size, 0, none⟩, 1)) : CQ)]).map slV) by rw [List.map_append]; exact ho8)
       have HQ8 := Hq (show zkc w8 A' vs j L /\ zft w8 (some ⟨wr.heap.size, 0, none⟩) 1 [zd6 ty x] from ⟨⟨HAT.out.1, HAT.out.2.1, fun p hp => ((HAT2.out.2.2 p hp).grown HO2.out hg8)⟩, HQ2.out.grown HO2.out hg8⟩)
       have HR8 := Hq (HSC.out _ HB8.out)
       clear ho8 hg8 hv8
       refine hK.out _ _ ?_ (fun hHeld => ?_)
       . exact HR8.out
       clear hK K
       refine wpAnyH_take (i := 13) (oi := { dst := some 13, op := Op.assign (Operand.tmp 70), type := 38, pos := "top.go:176", after := #[{ on := 12, ground := Ground.data }, { on := 12, ground := Ground.chain }, { on := 0, ground := Ground.phase }, { on := 1, ground := Ground.phase }, { on := 2, ground := Ground.phase }, { on := 3, ground := Ground.phase }, { on := 4, ground := Ground.phase }, { on := 5, ground := Ground.phase }, { on := 6, ground := Ground.phase }, { on := 7, ground := Ground.phase }, { on := 8, ground := Ground.phase }, { on := 9, ground := Ground.phase }, { on := 10, ground := Ground.phase }, { on := 11, ground := Ground.phase }, { on := 12, ground := Ground.phase }], guard := none }) (v := ?_) rfl (by kernel_rfl) (by kernel_rfl) (by kernel_rfl) (fun _ _ _ h => h) (Or.inl ⟨by rfl, ?_⟩) (by assumption) ?_
       rotate_left
       . (intro w hSw; (try obtain ⟨s0, s1⟩ := hSw); go_simp; try with_reducible rfl)
       try simp only [Act.put, List.setIfInBounds_toArray, List.set_cons_zero, List.set_cons_succ]
       refine wpAnyH_done (by kernel_rfl) ?_ _
       have HN8 := Hq (HQ8.out.1.step (q := (some ⟨wr.heap.size, 0, none⟩, 1)) HXT.out.2 HXT.out.1 HQ8.out.2)
       clear HQ8 HR8 hHeld HO2 HAT2 HQ2 HV2 HD1 HBD HD2 HB2W HK2 HSC hs2 HO HAT
       go_wp2_with fail
       go_roundw
       case rel => exact ⟨j + 1, by omega, by go_num, ⟨_, HO8, HN8⟩, HB8.out⟩
       case measure => simp [RowKit.intOf]; omega
     . obtain rfl : j = vs.length := by omega
       have hLl : L.length = vs.length := HAT.out.1
       obtain ⟨Z, hZ⟩ : ∃ Z, Z = List.zipWith (fun t x => [zd6 t x]) A' vs := ⟨_, rfl⟩
       have hmap : L.map Prod.fst = Z := by
         rw [hZ, HAT.out.2.1, List.take_of_length_le]
         rw [List.length_zipWith]
         omega
       obtain ⟨la', lc', hsl, hq9, hargs⟩ := zel HO.out HAT.out.2.2
       simp only [Value.slice.injEq] at hsl
       obtain ⟨rfl, _, rfl⟩ := hsl
       obtain ⟨W7, hW7⟩ : ∃ W7, W7 = wr.alloc (.cells #[] 40) := ⟨_, rfl⟩
       have hb7 : Below wr.heap.size wr W7 := by rw [hW7]; exact ze (Below.refl _ _) _
       have HO7 := Hq (show W7.ownsRow wr.heap.size 40 6 (.slice (some ⟨wr.heap.size, 0, none⟩) 0 0) 0 [] by rw [hW7]; exact World.ownsRow_made wr #[] 0 (Nat.le_refl _) (by unfold maxLen; omega) rfl)
       have hs7 : wr.heap.size <= W7.heap.size := hb7.size
       have HB7 := Hq (zc HBW.out hb7)
       obtain ⟨c0, c1, c2, c3, c4⟩ := (HX5.out.below HBR.out).cells
       have c9 := (HX5.out.below HBR.out).lt
       obtain ⟨cc, hcc⟩ : ∃ cc, cc = zam h.size h Z := ⟨_, rfl⟩
       have HCP := Hq (show Calls Tryz.prog 9 #[.agg #[.int .i64 h.kind, .string ⟨⟨h.ty⟩⟩, .int .i64 h.a, .slice h.pa h.pos.length h.pc, .slice h.sa h.subs.length h.sc], .slice la vs.length lc] W7 (zcv cc W7) from by
         have := zf0 h.size HIN.out.2.2.1 (Nat.le_refl _) HH.out hA5 L 2 la lc W7 HB7.out (by rw [hLl, HLN.out]) (hargs.below hb7) (fun p hp => by
           have hm : p.1 ∈ Z := by rw [<- hmap]; exact List.mem_map.2 ⟨p, hp, rfl⟩
           rw [hZ] at hm
           obtain ⟨i, hi⟩ := List.getElem?_of_mem hm
           rw [List.getElem?_zipWith] at hi
           cases h1 : A'[i]? with
           | none => rw [h1] at hi; simp at hi
           | some t =>
             cases h2 : vs[i]? with
             | none => rw [h1, h2] at hi; simp at hi
             | some y =>
               rw [h1, h2] at hi
               simp only [Option.map_some, Option.some.injEq] at hi
               rw [<- hi]; simp) (by omega) (by
           have h1 : 2 ^ h.size <= 2 ^ 12 := Nat.pow_le_pow_right (by omega) (by omega)
           have h2 : 2 ^ h.size * 2 <= 2 ^ 12 * 2 := Nat.mul_le_mul_right 2 h1
           omega)
         rw [hLl, hmap, <- hcc] at this
         exact this)
       have HRU := Hq (show zro ofO cc [] [(kdT g', n)] by rw [hcc, hZ]; exact z6m HIN.out.2.2.1 HLN.out HIN.out.2.2.2.2.2)
       have HIT := Hq (show ∀ x ∈ cc, z05 x by rw [hcc, hZ]; exact z6g HIN.out.2.2.1 (z7s HH.out) HIN.out.2.1.2.1 HI.out)
       have hcl : cc.length <= 8192 := by rw [hcc, hZ]; exact z3f HIN.out.2.2.1 (by omega)
       have HNM := Hq HIN.out.2.2.2.1
       clear hlj hLl hmap hargs hq9 hb7 hcc hZ HO HAT HTS
       go_upto_region 14 with fail
       go_wp2_with fail
       rw [<- hW7]
       clear hW7
       refine HCP.out.mono ?_
       rintro e w8 ⟨hb8, a8, c8, rfl, hc8⟩
       have HO8 := Hq (zad HO7.out hb8)
       have HC8 := Hq hc8
       have HB8 := Hq (zc HB7.out hb8)
       have hs8 : wr.heap.size <= w8.heap.size := Nat.le_trans hs7 hb8.size
       clear hb8 hc8 HCP HO7 c0 c1 c2 c3 c4 c9
       go_wp2_with (at_builtin; refine z8 zmy rfl _ _ rfl wr.heap.size _ 0 [] rfl HO8.out _ cc.length (cc.map z6).flatten rfl (zf5 HC8.out.1) (by omega) (by omega) hs8 ?_)
       intro v9 w9 ho9 hg9
       have HBL9 := Hq (show Below wr.heap.size w8 w9 from (Below.refl _ _).grown hg9 hs8 (fun q hq => (HO8.out.lt q hq).1))
       have HO9 := Hq (show w9.ownsRow wr.heap.size 40 6 v9 cc.length (cc.map z6).flatten by simpa using ho9)
       have hs9 : wr.heap.size <= w9.heap.size := Nat.le_trans hs8 HBL9.out.size
       clear ho9 hg9
       go_wp2_with (at_builtin; refine zt zmy rfl _ _ rfl wr.heap.size _ cc.length (cc.map z6).flatten rfl HO9.out (z6 ze1) rfl (ze9 _) _ rfl (by simp) (by omega) (by omega) hs9 ?_)
       intro v10 w10 ho10 hg10
       have HB10 := Hq (show Below w.heap.size w w10 from HB8.out.trans ((HBL9.out.trans (zbg hs9 HO9.out hg10)).mono (by have := HBW.out.size; omega)))
       obtain ⟨a10, c10, rfl, hc10⟩ := zha (l := cc ++ [ze1]) (by rw [List.length_append, zmo]; exact ho10)
       have HC10 := Hq hc10.1
       rw [show (cc ++ [ze1]).length = cc.length + 1 by simp]
       clear ho10 hg10 hc10 HO8 HO9 HBL9 hs7 hs8 hs9 HC8
       have hgl : g'.length <= 1000 := zo3 HNM.out
       have HMA := Hq (fun W => zs3 a10 (cc.length + 1) c10 (40 :: 41 :: g') W)
       go_wp2_with fail
       refine (HMA.out _).mono ?_
       rintro e w11 ⟨rfl, hb11⟩
       have HB11 := Hq (zc HB10.out hb11)
       have HC11 := Hq (HC10.out.below hb11)
       obtain ⟨w12, hw12⟩ : ∃ w12, w12 = w11.alloc (.cells #[.string ⟨⟨tmN⟩⟩, .string ⟨⟨40 :: 41 :: g'⟩⟩, .bool true, .bool false, .bool false, .int .i64 8, .slice a10 (cc.length + 1) c10, .slice none 0 0] 45) := ⟨_, rfl⟩
       obtain ⟨w13, hw13⟩ : ∃ w13, w13 = w12.alloc (.cells #[.string ⟨#[77, 97, 105, 110]⟩, .string ⟨#[79, 98, 106, 101, 99, 116]⟩, .slice none 0 0, .bool false, .slice none 0 0, .slice (some ⟨w11.heap.size, 0, none⟩) 1 1] 50) := ⟨_, rfl⟩
       have hs12 : w12.heap.size = w11.heap.size + 1 := by rw [hw12]; simp
       have hlc : (cc ++ [ze1]).length = cc.length + 1 := by simp
       have HM13 := Hq (show Blk w13 w11.heap.size 45 (zj4 (tcM (cc ++ [ze1]) g') ⟨a10, c10, none, 0⟩) by
         rw [hw13]
         refine Blk.alloc ?_ _
         rw [hw12]
         unfold zj4 tcM
         simp only [hlc]
         exact zg _ _ _ _ rfl)
       have HK13 := Hq (show Blk w13 w12.heap.size 50 (zb7 (tcC (cc ++ [ze1]) g') (zpu w11.heap.size ⟨a10, c10, none, 0⟩)).toArray by rw [hw13]; exact zg _ _ _ _ rfl)
       have hb13 : Below w11.heap.size w11 w13 := by rw [hw13, hw12]; exact ze (ze (Below.refl _ _) _) _
       have HB13 := Hq (zc HB11.out hb13)
       have HCL := Hq (z9d HK13.out HM13.out (HC11.out.below hb13))
       have HF13 := Hq (HF.out.below HB13.out)
       have HCS := Hq (show zl9 [tcC (cc ++ [ze1]) g'] from z32 HNM.out (fun x hx => by
         rcases List.mem_append.1 hx with hx | hx
         . exact Or.inl (HIT.out x hx)
         . exact Or.inr (List.mem_singleton.1 hx)) (by rw [hlc]; omega))
       have HCK := Hq (show Calls Tryz.prog 11 #[.slice (some ⟨w12.heap.size, 0, none⟩) 1 1] w13 fun e w' => e = .returned (zaj (zej [tcC (cc ++ [ze1]) g'])) /\ Below w13.heap.size w13 w' from zqg [tcC (cc ++ [ze1]) g'] [zpu w11.heap.size ⟨a10, c10, none, 0⟩] (some ⟨w12.heap.size, 0, none⟩) 1 w13 HCL.out HF13.out HCS.out (z3z HCS.out))
       rw [hs12] at HCK HCL
       clear hb11 hb13 hlc HM13 HK13 HC10 HC11 HMA
       go_upto_region 16 with fail
       rw [<- hw12, <- hw13]
       clear hw12 hw13
       go_wp2_with fail
       refine HCK.out.mono ?_
       rintro e w14 ⟨rfl, hb14⟩
       have HB14 := Hq (zc HB13.out hb14)
       by_cases hck : zej [tcC (cc ++ [ze1]) g'] = 0
       case neg =>
         rw [za4 hck]
         generalize zej [tcC (cc ++ [ze1]) g'] = z at *
         clear hck hb14 HCK HCL HRU HIT HCS
         go_wp2_with fail
         go_ret
         exact ⟨rfl, HB14.out⟩
       case pos =>
         have HRC := Hq (show Calls Tryz.prog 12 #[.slice (some ⟨w11.heap.size + 1, 0, none⟩) 1 1, .string ⟨#[77, 97, 105, 110]⟩, .string ⟨#[109, 97, 105, 110]⟩, .string ⟨⟨40 :: 41 :: g'⟩⟩, .slice none 0 0, .int .i64 1000] w14 fun e w' => e = .returned (.tuple #[zpw (kdT g') n [] ((cc.length + 1 : Nat) : Int), .nilIface]) /\ Below w14.heap.size w14 w' from
           z4i HNM.out HIT.out (by omega) HRU.out (w11.heap.size + 1) w11.heap.size ⟨a10, c10, none, 0⟩ w14 (HCL.out.below hb14) (HF13.out.below hb14) hck)
         rw [hck, errOf_zero]
         obtain ⟨st, hst⟩ : ∃ st : Int, st = ((cc.length + 1 : Nat) : Int) := ⟨_, rfl⟩
         rw [<- hst] at HRC
         obtain ⟨kd, hkd⟩ : ∃ kd, kd = kdT g' := ⟨_, rfl⟩
         rw [<- hkd] at HRC
         have HKD := Hq hkd
         clear hck hb14 HCK HCL HRU HIT HCS hst hkd
         go_wp2_with fail
         refine HRC.out.mono ?_
         rintro e w15 ⟨rfl, hb15⟩
         obtain ⟨w16, hw16⟩ : ∃ w16, w16 = w15.alloc (.cells #[.int .i64 kd, .int .i64 n, .string ⟨#[]⟩, .int .i64 st] 56) := ⟨_, rfl⟩
         have HT16 := Hq (show Blk w16 w15.heap.size 56 #[.int .i64 kd, .int .i64 n, .string ⟨#[]⟩, .int .i64 st] by rw [hw16]; exact zg _ _ _ _ rfl)
         have HB16 := Hq (show Below w.heap.size w w16 by rw [hw16]; exact ze (zc HB14.out hb15) _)
         unfold zpw
         clear hb15 HRC
         go_upto_region 19 with fail
         rw [<- hw16]
         clear hw16
         have t0 := HT16.out.cell 0
         have t1 := HT16.out.cell 1
         have t2 := HT16.out.cell 2
         have t3 := HT16.out.cell 3
         have t9 := HT16.out.lt
         have hgg : g' = [73] \/ g' = [74] := by have := HNM.out; unfold zdb at this; simpa using this
         have HKJ := Hq (show kd = if g' = [73] then 1 else 2 from HKD.out)
         clear HIN HNM HKD
         rcases hgg with rfl | rfl
         . obtain rfl : kd = 1 := HKJ.out
           go_wp2_with fail
           go_ret
           exact ⟨rfl, HB16.out⟩
         . obtain rfl : kd = 2 := HKJ.out
           go_wp2_with fail
           go_ret
           exact ⟨rfl, HB16.out⟩
section
variable {H : Type} {enc : TypeId × Value -> H} {W : World}
def IntR (x : Int) (cs : List Value) (_ : DataW H) : Prop := cs = [.int .i64 x] /\ -9223372036854775808 <= x /\ x <= 9223372036854775807
theorem zv9 {r : Reach} {base : Nat} {v : Value} {d : DataW H} {p : List MemPlace} (hv : Value.okWide Tryz.prog W r base 22 v) (h : DataW.Trod enc Tryz.prog W 0 (fun _ => true) true 22 v d p) :
   ∃ (a : Option Addr) (cap : Nat) (L : List Int), v = .slice a L.length cap /\ zab W a cap (L.map (Value.int .i64)) /\ (∀ x ∈ L, -9223372036854775808 <= x /\ x <= 9223372036854775807) /\ L.length <= Rows.uptoBulk d := by
 obtain ⟨a, len, cap, rfl⟩ := WideShapes.okWide_slice Tryz.underlying22 hv
 obtain ⟨fuel, hf⟩ := h
 obtain ⟨pa, pc, pos, e3, hpc, hbp, hpl⟩ := zgp Tryz.underlying22 zpe (by decide) (IntR (H := H)) (fun n _ cs d p h hl => by
   match cs, hl with
   | [c], _ => obtain ⟨x, rfl, h1, h2⟩ := zu0 Tryz.underlying3 h; exact ⟨x, rfl, h1, h2⟩) (d := d) (p := p) hf
 simp only [Value.cells, List.cons.injEq, and_true] at e3
 refine ⟨pa, pc, pos, e3, ?_, ?_, by omega⟩
 . refine ⟨by rw [List.length_map]; exact hpc, ?_⟩
   rcases hpl.2 with h | ⟨b, off, rfl, hlt, hc⟩
   . left; rw [h]; rfl
   . refine Or.inr ⟨b, off, rfl, hlt, fun j x hj => ?_⟩
     rw [List.getElem?_map] at hj
     cases hz : pos[j]? with
     | none => rw [hz] at hj; cases hj
     | some z =>
       rw [hz] at hj
       simp only [Option.map_some, Option.some.injEq] at hj
       subst hj
       obtain ⟨cs, d', ⟨rfl, _⟩, _, hcell⟩ := hc j z hz
       have := hcell 0 _ rfl
       simpa using this
 . intro x hx
   obtain ⟨j, hj⟩ := List.getElem?_of_mem hx
   rcases hpl.2 with h | ⟨b, off, rfl, hlt, hc⟩
   . rw [h] at hx; cases hx
   . obtain ⟨cs, d', ⟨_, h1, h2⟩, _, _⟩ := hc j x hj
     exact ⟨h1, h2⟩
end
theorem topCompiled.walk {H : Type} {enc : TypeId × Value -> H} {W : World} {base : Nat}
   {v0 : Value} {d0 : DataW H} {p0 : List MemPlace} (hv0 : Value.okWide Tryz.prog W .any base 25 v0) (h0 : DataW.Trod enc Tryz.prog W 0 (fun _ => true) true 25 v0 d0 p0)
   {v1 : Value} {d1 : DataW H} {p1 : List MemPlace} (hv1 : Value.okWide Tryz.prog W .any base 22 v1) (h1 : DataW.Trod enc Tryz.prog W 0 (fun _ => true) true 22 v1 d1 p1)
   (W' : World) (hW : W' = W) (hL : laidMetH Tryz.prog Rows.topCompiledUptoRow.laid W) {S : Prop} (_ : S) (hbulk : Rows.uptoBulkAll [d0, d1] <= 1048576) :
   Calls Tryz.prog 3 #[v0, v1] W' fun e w' => e = .returned (.bool true) /\ Below W'.heap.size W' w' := by
 subst hW
 obtain ⟨h, rfl, hx⟩ := z1c hv0 h0
 obtain ⟨a, cap, vs, rfl, hvs, hvI, hvl⟩ := zv9 hv1 h1
 simp only [Rows.uptoBulkAll] at hbulk
 exact zm6 h vs a cap W' (hx (by omega)) hvs hvI (by omega) (zpd hL (by kernel_rfl))
end Go.Proofs.YtbnkckjdgpiggaaGreatDoor
