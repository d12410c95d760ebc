import Derived.Test.YtbnkckjdgpiggaaGreatDoorSg
namespace Go.Proofs.YtbnkckjdgpiggaaGreatDoor
set_option maxRecDepth 100000
set_option maxHeartbeats 16000000
set_option linter.unusedVariables false
set_option linter.unusedSimpArgs false
open Go.RowKit Go.Shelf Go.Lib
theorem zzx {A : List Nm} {B : List Nm} (h : ∀ x ∈ A, B.contains x = false) : (A.find? (fun c => B.contains c)) = none := List.find?_eq_none.2 (fun x hx => by simp only [h x hx]; simp)
theorem zz7 {L : List zd} {a b : Nm} {k : Nat} {x : Nm} (hf : ((zbi L a).elim false (·.face) || (zbi L b).elim false (·.face)) = false) (h0 : ∀ y ∈ (zcx L a).take k, (zcx L b).contains y = false) (hx : (zcx L a)[k]? = some x) (hc : (zcx L b).contains x = true) : zez L a b = x := by
 rw [zhp hf]
 unfold zit
 rw [z5g h0 hx hc]
 rfl
theorem zwz {L : List zd} {a b : Nm} (hf : ((zbi L a).elim false (·.face) || (zbi L b).elim false (·.face)) = false) (h0 : ∀ y ∈ zcx L a, (zcx L b).contains y = false) : zez L a b = zbq := by
 rw [zhp hf]
 unfold zit
 rw [zzx h0]
 rfl
theorem ztx {L : List CP} (x : Nm) : (zbi (CL L) x).elim false (·.face) = (zfs L x).1.face := by
 rw [z63]
 cases zbi (CL L) x with
 | none => rfl
 | some c => rfl
theorem zot (l : List zd) (L : List CP) (b : Nat) (x y : Nm) (w : World) (hW : WOk w b l L) (hx : x.length <= 1048576) (hy : y.length <= 1048576) :
   Calls Tryz.prog 186 #[.map (some b), .string ⟨⟨x⟩⟩, .string ⟨⟨y⟩⟩] w fun e w' => e = .returned (.string ⟨⟨zez (wl l) x y⟩⟩) /\ Below w.heap.size w w' := by
 have hml : (1048576 : Nat) <= maxLen := by unfold maxLen; omega
 have hlx := zk1 (n := x) hW.at_ (Nat.le_trans hx hml)
 have hly := zk1 (n := y) hW.at_ (Nat.le_trans hy hml)
 have hfx := class_face (zfs L x).1 (zfs L x).2
 have hfy := class_face (zfs L y).1 (zfs L y).2
 have HFX := Hq (ztx (L := L) x)
 have HFY := Hq (ztx (L := L) y)
 rw [hW.cl] at HFX HFY
 have HLX := Hq (fun W (hb : Below w.heap.size w W) => z30 (hW.below hb) x hx)
 have HLY := Hq (z30 hW y hy)
 have hl1 := zhl hW.good x
 have hl2 := zhl hW.good y
 clear hW
 cases h1 : (zfs L x).1.face with
 | true =>
   have HJ := Hq (show zez (wl l) x y = zbq from zht (by rw [HFX.out, h1]; rfl))
   rw [HJ.out]
   rw [h1] at hfx
   clear h1
   unfold zbq
   go_enter Tryz.func186, Tryz.ntmps186
   go_wp2_with fail
   go_ret
   exact ⟨rfl, Below.refl _ _⟩
 | false =>
   cases h2 : (zfs L y).1.face with
   | true =>
     have HJ := Hq (show zez (wl l) x y = zbq from zht (by rw [HFX.out, HFY.out, h1, h2]; rfl))
     rw [HJ.out]
     rw [h1] at hfx
     rw [h2] at hfy
     clear h1 h2
     unfold zbq
     go_enter Tryz.func186, Tryz.ntmps186
     go_wp2_with fail
     go_ret
     exact ⟨rfl, Below.refl _ _⟩
   | false =>
     have HFF := Hq (show ((zbi (wl l) x).elim false (·.face) || (zbi (wl l) y).elim false (·.face)) = false by rw [HFX.out, HFY.out, h1, h2]; rfl)
     have HJH := Hq (fun k z h0 hx hc => @zz7 (wl l) x y k z HFF.out h0 hx hc)
     have HJM := Hq (fun h0 => @zwz (wl l) x y HFF.out h0)
     rw [h1] at hfx
     rw [h2] at hfy
     clear h1 h2 HFX HFY
     generalize zcx (wl l) x = lx at *
     generalize zcx (wl l) y = ly at *
     generalize zez (wl l) x y = jc at *
     go_enter Tryz.func186, Tryz.ntmps186
     go_wp2_with fail
     refine HLY.out.mono ?_
     rintro e w2 ⟨⟨v, rfl, ho⟩, hb2⟩
     obtain ⟨a2, c2, rfl, hr2⟩ := zl ho
     have HR2 := Hq hr2
     have HB2 := Hq hb2
     clear ho hr2 hb2
     go_wp2_with fail
     refine (HLX.out _ HB2.out).mono ?_
     rintro e w3 ⟨⟨v, rfl, ho⟩, hb3⟩
     obtain ⟨a3, c3, rfl, hr3⟩ := zl ho
     have HR3 := Hq hr3
     have HC3 := Hq (fun z => zc9 ly a2 ly.length c2 z w3 (HR2.out.below hb3) rfl (by omega))
     have HB3 := Hq (zc HB2.out hb3)
     clear ho hr3 hb3
     go_wp2_with fail
     go_loopw [27] (fun i wr => ∃ j : Nat, j <= lx.length /\ i = .int .i64 j /\ wr = w3 /\ Hid (∀ z ∈ lx.take j, ly.contains z = false)) (fun i _ => lx.length - (RowKit.intOf i).toNat)
     case atStart => exact ⟨0, by omega, rfl, rfl, Hq (by simp)⟩
     case round =>
       obtain ⟨j, hj, rfl, rfl, HA⟩ := hrel
       by_cases hlk : j < lx.length
       . obtain ⟨z, hz⟩ : ∃ z, lx[j]? = some z := ⟨_, List.getElem?_eq_getElem hlk⟩
         obtain ⟨b1, off, rfl, hlt, c0⟩ := zbr HR3.out hz
         have HZ := Hq hz
         clear hz
         cases hc : ly.contains z with
         | true =>
           have HCT := Hq (HC3.out z)
           rw [hc] at HCT
           have HE := Hq (HJH.out j z HA.out HZ.out hc)
           clear hc
           go_wp2_with fail
           refine HCT.out.mono ?_
           rintro e w4 ⟨rfl, rfl⟩
           go_wp2_with fail
           go_ret
           exact ⟨by rw [HE.out]; rfl, HB3.out⟩
         | false =>
           have HCT := Hq (HC3.out z)
           rw [hc] at HCT
           have HA2 := Hq (za8 (P := fun z => ly.contains z = false) HA.out HZ.out hc)
           clear hc
           go_wp2_with fail
           refine HCT.out.mono ?_
           rintro e w4 ⟨rfl, rfl⟩
           go_wp2_with fail
           go_roundw
           case rel => exact ⟨j + 1, by omega, by go_num, trivial, HA2⟩
           case measure => simp [RowKit.intOf]; omega
       . obtain rfl : j = lx.length := by omega
         have HE := Hq (HJM.out (by have := HA.out; rwa [List.take_length] at this))
         go_wp2_with fail
         go_ret
         exact ⟨by rw [HE.out]; rfl, HB3.out⟩
def zkl (b : Nat) (s t r : Nm) (w : World) : Prop := Calls Tryz.prog 158 #[.map (some b), .string ⟨⟨s⟩⟩, .string ⟨⟨t⟩⟩] w fun e w' => e = .returned (.string ⟨⟨r⟩⟩) /\ Below w.heap.size w w'
theorem zos (b : Nat) (s : Nm) (w : World) : zkl b s s s w := by
 unfold zkl
 go_enter Tryz.func158, Tryz.ntmps158
 go_wp2_with fail
 go_ret
 exact ⟨rfl, Below.refl _ _⟩
theorem z6e (b : Nat) (t : Nm) (ht : zbb t = true) (w : World) : zkl b [78] t t w := by
 have HR := Hq (zu t)
 rw [ht] at HR
 have h78 : (([78] : Nm) == t) = false := by rw [beq_eq_false_iff_ne]; rintro rfl; simp [zbb] at ht
 clear ht
 unfold zkl
 go_enter Tryz.func158, Tryz.ntmps158
 go_wp2_with fail
 refine (HR.out _).mono ?_
 rintro e w1 ⟨rfl, rfl⟩
 go_wp2_with fail
 go_ret
 exact ⟨rfl, Below.refl _ _⟩
theorem z4q (b : Nat) (s : Nm) (hs : zbb s = true) (w : World) : zkl b s [78] s w := by
 have HR := Hq (zu s)
 rw [hs] at HR
 have h78 : (s == [78]) = false := by rw [beq_eq_false_iff_ne]; rintro rfl; simp [zbb] at hs
 clear hs
 unfold zkl
 go_enter Tryz.func158, Tryz.ntmps158
 go_wp2_with fail
 refine (HR.out _).mono ?_
 rintro e w1 ⟨rfl, rfl⟩
 go_wp2_with fail
 go_ret
 exact ⟨rfl, Below.refl _ _⟩
theorem zg8 (b : Nat) (s t : Nm) (hst : s ≠ t) (hr : (zbb s && zbb t) = false) (hn : s = [78] -> zbb t = false) (hm : t = [78] -> zbb s = false) (w : World) : zkl b s t [84] w := by
 have HS := Hq (zu s)
 have HT := Hq (zu t)
 have hst2 : (s == t) = false := by rw [beq_eq_false_iff_ne]; exact hst
 unfold zkl
 by_cases h : s = [78]
 . rw [hn h] at HT
   subst h
   rw [show zbb [78] = false from rfl] at HS
   have h78 : (t == [78]) = false := by rw [beq_eq_false_iff_ne]; exact fun q => hst q.symm
   clear hst hn hm hr
   go_enter Tryz.func158, Tryz.ntmps158
   go_wp2_with fail
   refine (HT.out _).mono ?_
   rintro e w1 ⟨rfl, rfl⟩
   go_wp2_with fail
   refine (HS.out _).mono ?_
   rintro e w1 ⟨rfl, rfl⟩
   go_wp2_with fail
   go_ret
   exact ⟨rfl, Below.refl _ _⟩
 . have h78 : (s == [78]) = false := by rw [beq_eq_false_iff_ne]; exact h
   by_cases h2 : t = [78]
   . rw [hm h2] at HS
     subst h2
     clear hst hn hm hr h
     go_enter Tryz.func158, Tryz.ntmps158
     go_wp2_with fail
     refine (HS.out _).mono ?_
     rintro e w1 ⟨rfl, rfl⟩
     go_wp2_with fail
     refine (HS.out _).mono ?_
     rintro e w1 ⟨rfl, rfl⟩
     go_wp2_with fail
     go_ret
     exact ⟨rfl, Below.refl _ _⟩
   . have h79 : (t == [78]) = false := by rw [beq_eq_false_iff_ne]; exact h2
     clear hst hn hm h h2
     cases h1 : zbb s with
     | false =>
       rw [h1] at HS
       clear h1 hr
       go_enter Tryz.func158, Tryz.ntmps158
       go_wp2_with fail
       refine (HS.out _).mono ?_
       rintro e w1 ⟨rfl, rfl⟩
       go_wp2_with fail
       go_ret
       exact ⟨rfl, Below.refl _ _⟩
     | true =>
       rw [h1, Bool.true_and] at hr
       rw [h1] at HS
       rw [hr] at HT
       clear h1 hr
       go_enter Tryz.func158, Tryz.ntmps158
       go_wp2_with fail
       refine (HS.out _).mono ?_
       rintro e w1 ⟨rfl, rfl⟩
       go_wp2_with fail
       refine (HT.out _).mono ?_
       rintro e w1 ⟨rfl, rfl⟩
       go_wp2_with fail
       go_ret
       exact ⟨rfl, Below.refl _ _⟩
theorem zfa (x : Nm) : (z7 x == [78]) = false := by rw [beq_eq_false_iff_ne]; simp [z7]
theorem zeh (r : Nm) : ((91 :: r : Nm) == [78]) = false := by rw [beq_eq_false_iff_ne]; simp
theorem z9j (l : List zd) (L : List CP) (b : Nat) (x y : Nm) (w : World) (hW : WOk w b l L) (hxy : x ≠ y) (hx : x.length <= 1048576) (hy : y.length <= 1048576) (hj : (zez (wl l) x y).length <= 1048576) :
   zkl b (z7 x) (z7 y) (z7 (zez (wl l) x y)) w := by
 have HX := Hq (zu (z7 x))
 have HY := Hq (zu (z7 y))
 rw [zeg] at HX HY
 have HCX := Hq (fun w => show Calls Tryz.prog 86 #[.string ⟨⟨z7 x⟩⟩] w _ from zc4 0 (.cls x) hx w)
 have HCY := Hq (fun w => show Calls Tryz.prog 86 #[.string ⟨⟨z7 y⟩⟩] w _ from zc4 0 (.cls y) hy w)
 simp only [Bse.cl] at HCX HCY
 have HCL := Hq (zot l L b x y w hW hx hy)
 have h78 := zfa x
 have h79 := zfa y
 have hst : (z7 x == z7 y) = false := by rw [beq_eq_false_iff_ne]; exact fun h => hxy (zk9 h)
 have HTH := Hq (fun w => zcg (zez (wl l) x y) hj w)
 clear hW hxy
 obtain ⟨rx, hrx, hrx0⟩ := zc5 x
 obtain ⟨ry, hry, hry0⟩ := zc5 y
 generalize zez (wl l) x y = jc at *
 generalize z7 jc = tj at *
 unfold zkl
 rw [hrx] at HX HCX h78 hst
 rw [hry] at HY HCY h79 hst
 rw [hrx, hry]
 clear hrx hry
 go_enter Tryz.func158, Tryz.ntmps158
 go_wp2_with fail
 refine (HX.out _).mono ?_
 rintro e w1 ⟨rfl, rfl⟩
 go_wp2_with fail
 refine (HY.out _).mono ?_
 rintro e w1 ⟨rfl, rfl⟩
 go_wp2_with fail
 refine (HCX.out _).mono ?_
 rintro e w1 ⟨rfl, rfl⟩
 go_wp2_with fail
 refine (HCY.out _).mono ?_
 rintro e w1 ⟨rfl, rfl⟩
 go_wp2_with fail
 refine HCL.out.mono ?_
 rintro e w2 ⟨rfl, hb2⟩
 have HB2 := Hq hb2
 clear hb2
 go_wp2_with fail
 refine (HTH.out _).mono ?_
 rintro e w1 ⟨rfl, rfl⟩
 go_wp2_with fail
 go_ret
 exact ⟨rfl, HB2.out⟩
theorem z87 (b : Nat) (x r : Nm) (w : World) : zkl b (z7 x) (91 :: r) (z7 zbq) w := by
 have HX := Hq (zu (z7 x))
 have HY := Hq (zu (91 :: r))
 rw [zeg] at HX
 rw [zfu] at HY
 have HTH := Hq (fun w => zcg zbq (by decide) w)
 unfold zbq at HTH
 have h78 := zfa x
 have h79 := zeh r
 have hst : (z7 x == 91 :: r) = false := by rw [beq_eq_false_iff_ne]; simp [z7]
 obtain ⟨rx, hrx, _⟩ := zc5 x
 unfold zkl zbq
 rw [hrx] at HX h78 hst
 rw [hrx]
 clear hrx
 go_enter Tryz.func158, Tryz.ntmps158
 go_wp2_with fail
 refine (HX.out _).mono ?_
 rintro e w1 ⟨rfl, rfl⟩
 go_wp2_with fail
 refine (HY.out _).mono ?_
 rintro e w1 ⟨rfl, rfl⟩
 go_wp2_with fail
 refine (HTH.out _).mono ?_
 rintro e w1 ⟨rfl, rfl⟩
 go_wp2_with fail
 go_ret
 exact ⟨rfl, Below.refl _ _⟩
theorem z8y (b : Nat) (y r : Nm) (w : World) : zkl b (91 :: r) (z7 y) (z7 zbq) w := by
 have HX := Hq (zu (91 :: r))
 have HY := Hq (zu (z7 y))
 rw [zeg] at HY
 rw [zfu] at HX
 have HTH := Hq (fun w => zcg zbq (by decide) w)
 unfold zbq at HTH
 have h78 := zeh r
 have h79 := zfa y
 have hst : ((91 :: r : Nm) == z7 y) = false := by rw [beq_eq_false_iff_ne]; simp [z7]
 obtain ⟨ry, hry, _⟩ := zc5 y
 unfold zkl zbq
 rw [hry] at HY h79 hst
 rw [hry]
 clear hry
 go_enter Tryz.func158, Tryz.ntmps158
 go_wp2_with fail
 refine (HX.out _).mono ?_
 rintro e w1 ⟨rfl, rfl⟩
 go_wp2_with fail
 refine (HY.out _).mono ?_
 rintro e w1 ⟨rfl, rfl⟩
 go_wp2_with fail
 refine (HTH.out _).mono ?_
 rintro e w1 ⟨rfl, rfl⟩
 go_wp2_with fail
 go_ret
 exact ⟨rfl, Below.refl _ _⟩
theorem z4r (b : Nat) (r q : Nm) (w : World) (hrq : r ≠ q) (hl : r.length <= 1048576) (hl2 : q.length <= 1048576) (h : (zbb r && zbb q) = false) : zkl b (91 :: r) (91 :: q) (z7 zbq) w := by
 have HX := Hq (zu (91 :: r))
 have HY := Hq (zu (91 :: q))
 rw [zfu] at HX HY
 have HR := Hq (zu r)
 have HQ := Hq (zu q)
 have h78 := zeh r
 have h79 := zeh q
 have hst : (r == q) = false := by rw [beq_eq_false_iff_ne]; exact hrq
 clear hrq
 unfold zkl
 have HTH := Hq (fun w => zcg zbq (by decide) w)
 unfold zbq at HTH
 unfold zbq
 generalize zbb r = rr at *
 generalize zbb q = qq at *
 cases rr with
 | false =>
   go_enter Tryz.func158, Tryz.ntmps158
   go_wp2_with fail
   refine (HX.out _).mono ?_
   rintro e w1 ⟨rfl, rfl⟩
   go_wp2_with fail
   refine (HY.out _).mono ?_
   rintro e w1 ⟨rfl, rfl⟩
   go_wp2_with fail
   refine (HR.out _).mono ?_
   rintro e w1 ⟨rfl, rfl⟩
   go_wp2_with fail
   refine (HTH.out _).mono ?_
   rintro e w1 ⟨rfl, rfl⟩
   go_wp2_with fail
   go_ret
   exact ⟨rfl, Below.refl _ _⟩
 | true =>
   rw [Bool.true_and] at h
   subst h
   go_enter Tryz.func158, Tryz.ntmps158
   go_wp2_with fail
   refine (HX.out _).mono ?_
   rintro e w1 ⟨rfl, rfl⟩
   go_wp2_with fail
   refine (HY.out _).mono ?_
   rintro e w1 ⟨rfl, rfl⟩
   go_wp2_with fail
   refine (HR.out _).mono ?_
   rintro e w1 ⟨rfl, rfl⟩
   go_wp2_with fail
   refine (HQ.out _).mono ?_
   rintro e w1 ⟨rfl, rfl⟩
   go_wp2_with fail
   refine (HTH.out _).mono ?_
   rintro e w1 ⟨rfl, rfl⟩
   go_wp2_with fail
   go_ret
   exact ⟨rfl, Below.refl _ _⟩
theorem z19 (b : Nat) (r q z : Nm) (w : World) (hrq : r ≠ q) (hl : r.length <= 1048576) (hl2 : q.length <= 1048576) (hz : z.length <= 1048576) (h1 : zbb r = true) (h2 : zbb q = true) (h : ∀ W, Below w.heap.size w W -> zkl b r q z W) : zkl b (91 :: r) (91 :: q) (91 :: z) w := by
 have HH := Hq h
 clear h
 have HX := Hq (zu (91 :: r))
 have HY := Hq (zu (91 :: q))
 rw [zfu] at HX HY
 have HR := Hq (zu r)
 have HQ := Hq (zu q)
 have h78 := zeh r
 have h79 := zeh q
 have hst : (r == q) = false := by rw [beq_eq_false_iff_ne]; exact hrq
 clear hrq
 unfold zkl
 unfold zkl at HH
 rw [h1] at HR
 rw [h2] at HQ
 clear h1 h2
 go_enter Tryz.func158, Tryz.ntmps158
 go_wp2_with fail
 refine (HX.out _).mono ?_
 rintro e w1 ⟨rfl, rfl⟩
 go_wp2_with fail
 refine (HY.out _).mono ?_
 rintro e w1 ⟨rfl, rfl⟩
 go_wp2_with fail
 refine (HR.out _).mono ?_
 rintro e w1 ⟨rfl, rfl⟩
 go_wp2_with fail
 refine (HQ.out _).mono ?_
 rintro e w1 ⟨rfl, rfl⟩
 go_wp2_with fail
 go_region_with (go_at_call 158; refine (HH.out _ (by exact (Below.refl _ _).drew)).mono ?_; rintro e w3 ⟨rfl, hb3⟩; have HB3 := Hq (zc (Below.refl w.heap.size w).drew hb3); clear hb3)
 all_goals
   go_wp2_with fail
   go_ret
   exact ⟨rfl, HB3.out⟩
theorem zym {l : List zd} (hg : zdf l) {x y : Nm} (hx : x ∈ zbt l) (hy : y ∈ zbt l) : (zez (wl l) x y).length <= 1048576 := by
 have := zkd hg (zlz hg hx hy)
 omega
theorem z8e (l : List zd) (L : List CP) (m : Nat) {b b' : Bse} (hb : b.Ok (wl l)) (hb' : b'.Ok (wl l)) : ∀ (d d' : Nat), d <= 3 -> d' <= 3 -> ∀ w, WOk w m l L -> zkl m (Kd.ty d b).text (Kd.ty d' b').text (zcu (wl l) d b d' b').text w
 | 0, 0, _, _, w, hW => by
   by_cases e : b = b'
   . subst e
     have : zcu (wl l) 0 b 0 b = .ty 0 b := by unfold zcu; rw [if_pos rfl]
     rw [this]
     exact zos m _ w
   . have hne : (Kd.ty 0 b).text ≠ (Kd.ty 0 b').text := fun h => e (zgn h).2
     cases hr : (b.isRef && b'.isRef) with
     | false =>
       have : zcu (wl l) 0 b 0 b' = .top := by unfold zcu; rw [if_neg e, if_neg (by rw [hr]; simp)]
       rw [this]
       exact zg8 m _ _ hne (by rw [zao, zao]; exact hr) (fun h => absurd h (zah _ _)) (fun h => absurd h (zah _ _)) w
     | true =>
       cases b with
       | int => cases hr
       | long => cases hr
       | cls x =>
         cases b' with
         | int => cases hr
         | long => cases hr
         | cls y =>
           have hxy : x ≠ y := fun h => e (by rw [h])
           have : zcu (wl l) 0 (.cls x) 0 (.cls y) = .ty 0 (.cls (zez (wl l) x y)) := by unfold zcu; rw [if_neg e, if_pos hr]; rfl
           rw [this]
           exact z9j l L m x y w hW hxy (by have := (zdm hb.1).2; omega) (by have := (zdm hb'.1).2; omega) (zym hW.good (look_some.1 hb.2) (look_some.1 hb'.2))
 | d + 1, 0, hd, _, w, hW => by
   have hne : (Kd.ty (d + 1) b).text ≠ (Kd.ty 0 b').text := fun h => by have := (zgn h).1; omega
   cases b' with
   | int => exact zg8 m _ _ hne (by rw [zao, zao]; rfl) (fun h => absurd h (zah _ _)) (fun h => absurd h (zah _ _)) w
   | long => exact zg8 m _ _ hne (by rw [zao, zao]; rfl) (fun h => absurd h (zah _ _)) (fun h => absurd h (zah _ _)) w
   | cls y => exact z8y m y (Kd.ty d b).text w
 | 0, d' + 1, _, hd', w, hW => by
   have hne : (Kd.ty 0 b).text ≠ (Kd.ty (d' + 1) b').text := fun h => by have := (zgn h).1; omega
   cases b with
   | int => exact zg8 m _ _ hne (by rw [zao, zao]; rfl) (fun h => absurd h (zah _ _)) (fun h => absurd h (zah _ _)) w
   | long => exact zg8 m _ _ hne (by rw [zao, zao]; rfl) (fun h => absurd h (zah _ _)) (fun h => absurd h (zah _ _)) w
   | cls x => exact z87 m x (Kd.ty d' b').text w
 | d + 1, d' + 1, hd, hd', w, hW => by
   by_cases e : d = d' /\ b = b'
   . obtain ⟨rfl, rfl⟩ := e
     rw [zwp]
     exact zos m _ w
   . have hne : (Kd.ty d b).text ≠ (Kd.ty d' b').text := fun h => e (zgn h)
     have l1 := zzq (L := wl l) (d := d) (by omega) hb
     have l2 := zzq (L := wl l) (d := d') (by omega) hb'
     cases hr : ((Kd.ty d b).refs && (Kd.ty d' b').refs) with
     | true =>
       have hr' := hr
       simp only [Bool.and_eq_true] at hr'
       obtain ⟨e', c, h1, h2, h3, _⟩ := zi8 hW.good hb hb' d d' hr'.1 hr'.2
       have : zcu (wl l) (d + 1) b (d' + 1) b' = .ty (e' + 1) c := by
         conv => lhs; unfold zcu
         rw [if_neg e, if_pos hr, h1]; rfl
       rw [this]
       have l3 := zzq (L := wl l) (d := e') (by omega) h3
       refine z19 m (Kd.ty d b).text (Kd.ty d' b').text (Kd.ty e' c).text w hne (by omega) (by omega) (by omega) (by rw [zao]; exact hr'.1) (by rw [zao]; exact hr'.2) (fun W hWW => ?_)
       have ih := z8e l L m hb hb' d d' (by omega) (by omega) W (hW.below hWW)
       rw [h1] at ih
       exact ih
     | false =>
       have : zcu (wl l) (d + 1) b (d' + 1) b' = .ty 0 (.cls zbq) := by
         conv => lhs; unfold zcu
         rw [if_neg e, if_neg (by rw [hr]; simp)]
       rw [this]
       exact z4r m (Kd.ty d b).text (Kd.ty d' b').text w hne (by omega) (by omega) (by rw [zao, zao]; exact hr)
theorem z2t (l : List zd) (L : List CP) (m : Nat) {a b : Kd} (ha : a.Ok (wl l)) (hb : b.Ok (wl l)) (w : World) (hW : WOk w m l L) : zkl m a.text b.text (zkm (wl l) a b).text w := by
 cases a with
 | nul =>
   cases b with
   | nul => exact zos m _ w
   | top => exact zg8 m _ _ (by simp [Kd.text]) rfl (fun _ => rfl) (fun h => by simp [Kd.text] at h) w
   | ty d y =>
     have e : zkm (wl l) .nul (.ty d y) = if (Kd.ty d y).refs = true then .ty d y else .top := rfl
     rw [e]
     cases hr : (Kd.ty d y).refs with
     | true => rw [if_pos rfl]; exact z6e m _ (by rw [zao]; exact hr) w
     | false => rw [if_neg (by simp)]; exact zg8 m _ _ (fun h => zah d y h.symm) (by show (false && _) = false; rw [Bool.false_and]) (fun _ => by rw [zao]; exact hr) (fun h => absurd h (zah _ _)) w
 | top =>
   cases b with
   | nul => exact zg8 m _ _ (by simp [Kd.text]) rfl (fun h => by simp [Kd.text] at h) (fun _ => rfl) w
   | top => exact zos m _ w
   | ty d y => exact zg8 m _ _ (fun h => zcz d y h.symm) (by show (false && _) = false; rw [Bool.false_and]) (fun h => by simp [Kd.text] at h) (fun h => absurd h (zah _ _)) w
 | ty d x =>
   cases b with
   | nul =>
     have e : zkm (wl l) (.ty d x) .nul = if (Kd.ty d x).refs = true then .ty d x else .top := rfl
     rw [e]
     cases hr : (Kd.ty d x).refs with
     | true => rw [if_pos rfl]; exact z4q m _ (by rw [zao]; exact hr) w
     | false => rw [if_neg (by simp)]; exact zg8 m _ _ (zah d x) (by show (_ && false) = false; rw [Bool.and_false]) (fun h => absurd h (zah _ _)) (fun _ => by rw [zao]; exact hr) w
   | top => exact zg8 m _ _ (zcz d x) (by show (_ && false) = false; rw [Bool.and_false]) (fun h => absurd h (zah _ _)) (fun h => by simp [Kd.text] at h) w
   | ty d' y => exact z8e l L m ha.2 hb.2 d d' ha.1 hb.1 w hW
def z3q : Oper := { dst := some 39, op := Op.load 35 (Operand.tmp 38), type := 35, pos := "frame.go:46", after := #[{ on := 0, ground := Ground.data }], guard := none }
def z8m : Oper := { dst := some 61, op := Op.load 35 (Operand.tmp 60), type := 35, pos := "frame.go:49", after := #[{ on := 0, ground := Ground.data }], guard := none }
theorem z1m : z3q.op = Op.load 35 (Operand.tmp 38) := rfl
theorem zxz : z3q.dst = some 39 := rfl
theorem zsc : z3q.guard = none := rfl
theorem z4h : z8m.op = Op.load 35 (Operand.tmp 60) := rfl
theorem z1q : z8m.dst = some 61 := rfl
theorem zvw : z8m.guard = none := rfl
def z6r : zf9 := ⟨none, 0, none, 0⟩
def zs5 (n : Nat) (p : zf9) : Prop := (∀ ad, p.la = some ad -> n <= ad.block) /\ ∀ ad, p.sa = some ad -> n <= ad.block
def zpg (l : List zd) (a b : FrR) (w : World) (e : Ending) (w' : World) : Prop := Below w.heap.size w w' /\
 ((¬ zey a b /\ e = .returned (.tuple #[frV ⟨[], []⟩ z6r, .bool false])) \/ (zey a b /\ ∃ p, e = .returned (.tuple #[frV (zdz (wl l) a b) p, .bool true]) /\ zfg w' (zdz (wl l) a b) p /\ zs5 w.heap.size p))
def z84 (l : List zd) (a b : FrR) (w : World) (e : Ending) (w' : World) : Prop := Below w.heap.size w w' /\
 ((¬ zey a b /\ e = .returned (.tuple #[frV ⟨[], []⟩ z6r, .bool false])) \/ (zey a b /\ ∃ p, e = .returned (.tuple #[frV (zdz (wl l) a b) p, .bool true]) /\ zfg w' (zdz (wl l) a b) p))
theorem zr4 (l : List zd) (L : List CP) (m : Nat) (fa fb : FrR) (pa pb : zf9) (w : World) (hW : WOk w m l L) (hfa : zfg w fa pa) (hfb : zfg w fb pb) (ha : zja (wl l) fa = 0) (hb : zja (wl l) fb = 0) :
   Calls Tryz.prog 121 #[.map (some m), frV fa pa, frV fb pb] w (zpg l fa fb w) := by
 have HB0 := Hq (fun o => (Below.refl w.heap.size w).alloc (Nat.le_refl _) o)
 obtain ⟨⟨n1, n2⟩, ka⟩ := zod.1 ha
 have kb := (zod.1 hb).2
 have HO := Hq (fun x (hx : x ∈ fa.loc ++ fa.st) y (hy : y ∈ fb.loc ++ fb.st) W (hWW : Below w.heap.size w W) => (show zkl m x y (zm4 (wl l) x y) W from by
   have h := z2t l L m (zch (ka x hx)).1 (zch (kb y hy)).1 W (hW.below hWW)
   rw [<- (zch (ka x hx)).2, <- (zch (kb y hy)).2] at h
   exact h))
 clear ha hb ka kb hW
 obtain ⟨hfa1, hfa2⟩ := hfa
 obtain ⟨hfb1, hfb2⟩ := hfb
 obtain ⟨A1, A2⟩ := fa
 obtain ⟨B1, B2⟩ := fb
 obtain ⟨la, lc, sa, sc⟩ := pa
 obtain ⟨la', lc', sa', sc'⟩ := pb
 unfold frV zpg zdz zey
 generalize zm4 (wl l) = J at *
 dsimp only at *
 have HA1 := Hq hfa1
 have HA2 := Hq hfa2
 have HB1 := Hq hfb1
 have HB2 := Hq hfb2
 clear hfa1 hfa2 hfb1 hfb2
 by_cases e1 : A1.length = B1.length
 . by_cases e2 : A2.length = B2.length
   . have q1 : ((A1.length : Int) != (B1.length : Int)) = false := by rw [bne_eq_false_iff_eq]; omega
     have q2 : ((A2.length : Int) != (B2.length : Int)) = false := by rw [bne_eq_false_iff_eq]; omega
     have Z1 := Hq (zpr (f := J) e1)
     have Z2 := Hq (zpr (f := J) e2)
     have E1 := Hq e1
     have E2 := Hq e2
     have l1 : B1.length <= A1.length /\ A1.length <= B1.length := by omega
     have l2 : B2.length <= A2.length /\ A2.length <= B2.length := by omega
     clear e1 e2
     go_enter Tryz.func121, Tryz.ntmps121
     go_wp2_with fail
     have HX : ∃ W0 : World, W0 = ((((w.alloc (Obj.cells #[Value.slice la A1.length lc, Value.slice sa A2.length sc] 141)).alloc (Obj.cells #[Value.slice la' B1.length lc', Value.slice sa' B2.length sc'] 141)).alloc (Obj.cells #[Value.slice none 0 0, Value.slice none 0 0] 141)).alloc (Obj.cells #[Value.slice none 0 0, Value.slice none 0 0] 141)) := ⟨_, rfl⟩
     obtain ⟨W0, hW0⟩ := HX
     have HBW := Hq (show Below w.heap.size w W0 by subst hW0; exact ze (ze (ze (ze (Below.refl _ _) _) _) _) _)
     have hd1 : Blk W0 (w.heap.size + 1) 141 #[Value.slice la' B1.length lc', Value.slice sa' B2.length sc'] := by
       subst hW0
       exact ((zg _ _ _ _ (by simp)).below ((Below.refl _ _).alloc (Nat.le_refl _) _)).below ((Below.refl _ _).alloc (Nat.le_refl _) _)
     have hd2 : Blk W0 (w.heap.size + 1 + 1) 141 #[Value.slice none 0 0, Value.slice none 0 0] := by
       subst hW0
       exact (zg _ _ _ _ (by simp)).below ((Below.refl _ _).alloc (Nat.le_refl _) _)
     have hd3 : Blk W0 (w.heap.size + 1 + 1 + 1) 141 #[Value.slice none 0 0, Value.slice none 0 0] := by
       subst hW0
       exact zg _ _ _ _ (by simp)
     have hd0 : Blk W0 w.heap.size 141 #[Value.slice la A1.length lc, Value.slice sa A2.length sc] := by
       subst hW0
       exact (((zg _ _ _ _ (by simp)).below ((Below.refl _ _).alloc (Nat.le_refl _) _)).below ((Below.refl _ _).alloc (Nat.le_refl _) _)).below ((Below.refl _ _).alloc (Nat.le_refl _) _)
     have hs0 : W0.heap.size = w.heap.size + 1 + 1 + 1 + 1 := by subst hW0; simp
     rw [<- hW0]
     clear hW0
     have HD0 := Hq hd0
     have HD1 := Hq hd1
     have HD2 := Hq hd2
     have HD3 := Hq hd3
     clear hd0 hd1 hd2 hd3
     go_loopw [33] (fun i wr => ∃ k : Nat, k <= A1.length /\ i = .int .i64 k /\ W0.grownBy wr (some (w.heap.size + 1 + 1 + 1)) /\ ∃ v, Blk wr (w.heap.size + 1 + 1 + 1) 141 #[v, Value.slice none 0 0] /\ wr.ownsRow W0.heap.size 9 1 v k (((List.zipWith J A1 B1).take k).map zz)) (fun i _ => A1.length - (RowKit.intOf i).toNat)
     case atStart => exact ⟨0, by omega, rfl, zp _ _, _, HD3.out, ⟨rfl, Or.inl ⟨rfl, rfl⟩⟩⟩
     case round =>
       obtain ⟨k, hk, rfl, hg, v, hv, ho⟩ := hrel
       have hbw := zj HBW.out hg (by omega)
       by_cases hlk : k < A1.length
       . obtain ⟨x, hx⟩ : ∃ x, A1[k]? = some x := ⟨_, List.getElem?_eq_getElem hlk⟩
         obtain ⟨y, hy⟩ : ∃ y, B1[k]? = some y := ⟨_, List.getElem?_eq_getElem (by omega)⟩
         obtain ⟨b1, off, rfl, hlt, c0⟩ := zbr (HA1.out.below hbw) hx
         obtain ⟨b2, off2, rfl, hlt2, d0⟩ := zbr HB1.out hy
         have hj0 : (0 : Int) <= (k : Int) := Int.natCast_nonneg _
         have hji : (k : Int) < (A1.length : Int) := by omega
         have hjb : (k : Int) < (B1.length : Int) := by omega
         have HS := Hq (fun W' (hW' : W0.grownBy W' (some (w.heap.size + 1 + 1 + 1))) => (show W'.cell? ⟨w.heap.size + 1, 0, none⟩ = some (.slice (some ⟨b2, off2, none⟩) B1.length lc') /\ W'.cell? ⟨b2, off2 + k, none⟩ = some (.string ⟨⟨y⟩⟩) from
           ⟨(zsj hW' (a := ⟨w.heap.size + 1, 0, none⟩) HD1.out.lt (by simp)).trans (HD1.out.cell 0), ((zj HBW.out hW' (by omega)).cell (p := ⟨b2, off2 + k, none⟩) hlt2).trans d0⟩))
         obtain ⟨s1, s2⟩ := HS.out _ hg
         have HOF := Hq (fun W (hW : W0.grownBy W (some (w.heap.size + 1 + 1 + 1))) => HO.out x (by simp [List.mem_of_getElem? hx]) y (by simp [List.mem_of_getElem? hy]) W (zj HBW.out hW (by omega)))
         unfold zkl at HOF
         have HG := Hq hg
         have HV := Hq hv
         have HOW := Hq ho
         have HTK := Hq (zpc (f := J) hx hy)
         have g0 := hv.cell 0
         have gl := hv.lt
         have HONE := Hq (show ∀ u ∈ ([zz (J x y)] : List Value), u.oneCell' = true by intro u hu; rw [List.mem_singleton.1 hu]; rfl)
         clear hx hy d0 hg hv ho hbw
         go_wp2_with fail
         rw [show ({ dst := some 39, op := Op.load 35 (Operand.tmp 38), type := 35, pos := "frame.go:46", after := #[{ on := 0, ground := Ground.data }], guard := none } : Oper) = z3q from rfl]
         have q1 := z1m
         have q2 := zxz
         have q3 := zsc
         go_region_held3 (fun W' => W'.cell? ⟨w.heap.size + 1, 0, none⟩ = some (.slice (some ⟨b2, off2, none⟩) B1.length lc') /\ W'.cell? ⟨b2, off2 + k, none⟩ = some (.string ⟨⟨y⟩⟩))
           (first | (exact HS.out _ (by repeat (first | exact HG.out | exact hg5 | exact hg6 | refine zb9 ?_ | refine zds ?_ _ | refine zai ?_ _ _))))
           ((first
           | (go_at_call 158
              refine (HOF.out _ (by exact zb9 HG.out)).mono ?_
              rintro e w5 ⟨rfl, hb5⟩
              have hg5 := zay (zb9 HG.out) hb5
              have hv5 := HV.out.drew.below hb5
              have ho5 := zad (show wr.drew.ownsRow _ _ _ _ _ _ from HOW.out) hb5
              have g5 := hv5.cell 0
              have gl5 := hv5.lt
              have gs5 := hg5.size)
           | (refine zdt zdu rfl (.tmp 39) (.tmp 48) rfl W0.heap.size _ k (((List.zipWith J A1 B1).take k).map zz) rfl ?_ _ 1 [zz (J x y)] rfl (Or.inr ?_) ?_ ?_ ?_ ?_
              . first | exact ho5.alloc _ | exact (ho5.alloc _).drew
              . first | exact zjz _ [zz (J x y)] _ 1 _ (by rfl) rfl HONE.out | exact zt4 (zjz _ [zz (J x y)] _ 1 _ (by rfl) rfl HONE.out) | exact zjz _ [zz (J x y)] _ 1 _ (by simp) rfl HONE.out
              . omega
              . omega
              . first | (simp; omega) | omega
              intro v6 w6 ho6 hgr6 hv6
              have hg6 : W0.grownBy w6 (some (w.heap.size + 1 + 1 + 1)) := zun (zds hg5 _) hgr6 hv6
              have hne6 : v.ownBlock ≠ some (w.heap.size + 1 + 1 + 1) := fun e => by have := hv6 _ e; omega
              have hbk6 := zfm (hv5.below ((Below.refl _ _).alloc (Nat.le_refl _) _)) hgr6 hne6
              have g6 := hbk6.cell 0
              have gz6 := hbk6.frozen 0
              have gl6 := hbk6.lt
              obtain ⟨A6, C6, rfl, _⟩ := zy ho6)))
         all_goals
           have hg7 := Hq (zai hg6 0 (.slice A6 (k + 1) C6))
           have hbk7 := Hq (show Blk (w6.setCell ⟨w.heap.size + 1 + 1 + 1, 0, none⟩ (.slice A6 (k + 1) C6)) (w.heap.size + 1 + 1 + 1) 141 #[.slice A6 (k + 1) C6, .slice none 0 0] from zm hbk6 0 (.slice A6 (k + 1) C6))
           have ho7 := Hq (zax ho6 (g := w.heap.size + 1 + 1 + 1) (j := 0) (fun e => by have := (ho6.lt _ e).1; omega) (.slice A6 (k + 1) C6))
           generalize w6.setCell ⟨w.heap.size + 1 + 1 + 1, 0, none⟩ (.slice A6 (k + 1) C6) = w7 at *
           clear q1 q2 q3 hg5 hv5 ho5 g5 gl5 gs5 ho6 hgr6 hv6 hg6 hne6 hbk6 g6 gz6 gl6 HS s1 s2
           go_wp2_with fail
           go_roundw
           case rel => exact ⟨k + 1, by omega, by go_num, hg7.out, _, hbk7.out, by rw [HTK.out, List.map_append]; exact ho7.out⟩
           case measure => simp [RowKit.intOf]; omega
       . obtain rfl : k = A1.length := by omega
         rw [List.take_of_length_le (by rw [Z1.out]; exact Nat.le_refl _)] at ho
         have ho' : wr.ownsRow W0.heap.size 9 1 v (List.zipWith J A1 B1).length ((List.zipWith J A1 B1).map zz) := by rw [Z1.out]; exact ho
         obtain ⟨v1a, v1c, rfl, hr1⟩ := zl ho'
         have HN1 := Hq (show ∀ ad, v1a = some ad -> W0.heap.size <= ad.block from fun ad e => (ho.lt ad.block (by rw [e]; rfl)).1)
         obtain ⟨W1, hW1⟩ : ∃ W1, W1 = wr := ⟨wr, rfl⟩
         subst hW1
         have HR1 := Hq hr1
         have HBW1 := Hq hbw
         have HG1 := Hq hg
         have HE0 := Hq (zac hg HD0.out (by omega))
         have HE1 := Hq (zac hg HD1.out (by omega))
         have HE2 := Hq (zac hg HD2.out (by omega))
         have HE3 := Hq hv
         have f0 := HE0.out.cell 1
         have f1 := HE0.out.lt
         have hl1 := hg.size
         clear ho ho' hr1 hbw hg hv hlk
         go_wp2_with fail
         go_loopw [55] (fun i wr => ∃ k : Nat, k <= A2.length /\ i = .int .i64 k /\ W1.grownBy wr (some (w.heap.size + 1 + 1 + 1)) /\ ∃ v, Blk wr (w.heap.size + 1 + 1 + 1) 141 #[.slice v1a (List.zipWith J A1 B1).length v1c, v] /\ wr.ownsRow W1.heap.size 9 1 v k (((List.zipWith J A2 B2).take k).map zz)) (fun i _ => A2.length - (RowKit.intOf i).toNat)
         case atStart => exact ⟨0, by omega, rfl, zp _ _, _, HE3.out, ⟨rfl, Or.inl ⟨rfl, rfl⟩⟩⟩
         case round =>
           obtain ⟨k, hk, rfl, hg, v, hv, ho⟩ := hrel
           have hbw := zj HBW1.out hg (by omega)
           by_cases hlk : k < A2.length
           . obtain ⟨x, hx⟩ : ∃ x, A2[k]? = some x := ⟨_, List.getElem?_eq_getElem hlk⟩
             obtain ⟨y, hy⟩ : ∃ y, B2[k]? = some y := ⟨_, List.getElem?_eq_getElem (by omega)⟩
             obtain ⟨b1, off, rfl, hlt, c0⟩ := zbr (HA2.out.below hbw) hx
             obtain ⟨b2, off2, rfl, hlt2, d0⟩ := zbr HB2.out hy
             have hj0 : (0 : Int) <= (k : Int) := Int.natCast_nonneg _
             have hji : (k : Int) < (A2.length : Int) := by omega
             have hjb : (k : Int) < (B2.length : Int) := by omega
             have HS := Hq (fun W' (hW' : W1.grownBy W' (some (w.heap.size + 1 + 1 + 1))) => (show W'.cell? ⟨w.heap.size + 1, 1, none⟩ = some (.slice (some ⟨b2, off2, none⟩) B2.length sc') /\ W'.cell? ⟨b2, off2 + k, none⟩ = some (.string ⟨⟨y⟩⟩) from
               ⟨(zsj hW' (a := ⟨w.heap.size + 1, 1, none⟩) HE1.out.lt (by simp)).trans (HE1.out.cell 1), ((zj HBW1.out hW' (by omega)).cell (p := ⟨b2, off2 + k, none⟩) hlt2).trans d0⟩))
             obtain ⟨s1, s2⟩ := HS.out _ hg
             have HOF := Hq (fun W (hW : W1.grownBy W (some (w.heap.size + 1 + 1 + 1))) => HO.out x (by simp [List.mem_of_getElem? hx]) y (by simp [List.mem_of_getElem? hy]) W (zj HBW1.out hW (by omega)))
             unfold zkl at HOF
             have HG := Hq hg
             have HV := Hq hv
             have HOW := Hq ho
             have HTK := Hq (zpc (f := J) hx hy)
             have g0 := hv.cell 1
             have gl := hv.lt
             have HONE := Hq (show ∀ u ∈ ([zz (J x y)] : List Value), u.oneCell' = true by intro u hu; rw [List.mem_singleton.1 hu]; rfl)
             clear hx hy d0 hg hv ho hbw
             go_wp2_with fail
             rw [show ({ dst := some 61, op := Op.load 35 (Operand.tmp 60), type := 35, pos := "frame.go:49", after := #[{ on := 0, ground := Ground.data }], guard := none } : Oper) = z8m from rfl]
             have q1 := z4h
             have q2 := z1q
             have q3 := zvw
             go_region_held3 (fun W' => W'.cell? ⟨w.heap.size + 1, 1, none⟩ = some (.slice (some ⟨b2, off2, none⟩) B2.length sc') /\ W'.cell? ⟨b2, off2 + k, none⟩ = some (.string ⟨⟨y⟩⟩))
               (first | (exact HS.out _ (by repeat (first | exact HG.out | exact hg5 | exact hg6 | refine zb9 ?_ | refine zds ?_ _ | refine zai ?_ _ _))))
               ((first
               | (go_at_call 158
                  refine (HOF.out _ (by exact zb9 HG.out)).mono ?_
                  rintro e w5 ⟨rfl, hb5⟩
                  have hg5 := zay (zb9 HG.out) hb5
                  have hv5 := HV.out.drew.below hb5
                  have ho5 := zad (show wr.drew.ownsRow _ _ _ _ _ _ from HOW.out) hb5
                  have g5 := hv5.cell 1
                  have gl5 := hv5.lt
                  have gs5 := hg5.size)
               | (refine zdt zdu rfl (.tmp 61) (.tmp 70) rfl W1.heap.size _ k (((List.zipWith J A2 B2).take k).map zz) rfl ?_ _ 1 [zz (J x y)] rfl (Or.inr ?_) ?_ ?_ ?_ ?_
                  . first | exact ho5.alloc _ | exact (ho5.alloc _).drew
                  . first | exact zjz _ [zz (J x y)] _ 1 _ (by rfl) rfl HONE.out | exact zt4 (zjz _ [zz (J x y)] _ 1 _ (by rfl) rfl HONE.out) | exact zjz _ [zz (J x y)] _ 1 _ (by simp) rfl HONE.out
                  . omega
                  . omega
                  . first | (simp; omega) | omega
                  intro v6 w6 ho6 hgr6 hv6
                  have hg6 : W1.grownBy w6 (some (w.heap.size + 1 + 1 + 1)) := zun (zds hg5 _) hgr6 hv6
                  have hne6 : v.ownBlock ≠ some (w.heap.size + 1 + 1 + 1) := fun e => by have := hv6 _ e; omega
                  have hbk6 := zfm (hv5.below ((Below.refl _ _).alloc (Nat.le_refl _) _)) hgr6 hne6
                  have g6 := hbk6.cell 1
                  have gz6 := hbk6.frozen 1
                  have gl6 := hbk6.lt
                  obtain ⟨A6, C6, rfl, _⟩ := zy ho6)))
             all_goals
               have hg7 := Hq (zai hg6 1 (.slice A6 (k + 1) C6))
               have hbk7 := Hq (show Blk (w6.setCell ⟨w.heap.size + 1 + 1 + 1, 1, none⟩ (.slice A6 (k + 1) C6)) (w.heap.size + 1 + 1 + 1) 141 #[.slice v1a (List.zipWith J A1 B1).length v1c, .slice A6 (k + 1) C6] from zm hbk6 1 (.slice A6 (k + 1) C6))
               have ho7 := Hq (zax ho6 (g := w.heap.size + 1 + 1 + 1) (j := 1) (fun e => by have := (ho6.lt _ e).1; omega) (.slice A6 (k + 1) C6))
               generalize w6.setCell ⟨w.heap.size + 1 + 1 + 1, 1, none⟩ (.slice A6 (k + 1) C6) = w7 at *
               clear q1 q2 q3 hg5 hv5 ho5 g5 gl5 gs5 ho6 hgr6 hv6 hg6 hne6 hbk6 g6 gz6 gl6 HS s1 s2
               go_wp2_with fail
               go_roundw
               case rel => exact ⟨k + 1, by omega, by go_num, hg7.out, _, hbk7.out, by rw [HTK.out, List.map_append]; exact ho7.out⟩
               case measure => simp [RowKit.intOf]; omega
           . obtain rfl : k = A2.length := by omega
             rw [List.take_of_length_le (by rw [Z2.out]; exact Nat.le_refl _)] at ho
             have ho' : wr.ownsRow W1.heap.size 9 1 v (List.zipWith J A2 B2).length ((List.zipWith J A2 B2).map zz) := by rw [Z2.out]; exact ho
             obtain ⟨v2a, v2c, rfl, hr2⟩ := zl ho'
             have HR2 := Hq hr2
             have HN2 := Hq (show ∀ ad, v2a = some ad -> W1.heap.size <= ad.block from fun ad e => (ho.lt ad.block (by rw [e]; rfl)).1)
             have HR1' := Hq (zcs hg HR1.out (fun ad e => by have := HN1.out ad e; omega))
             have HBW := Hq hbw
             have HE2' := Hq (zac hg HE2.out (by omega))
             have g0 := hv.cell 0
             have g1 := hv.cell 1
             have gl := hv.lt
             clear ho ho' hr2 hg hv hbw
             have y0 := HE2'.out.cell 0
             have y1 := HE2'.out.cell 1
             have y2 := HE2'.out.frozen 0
             have y3 := HE2'.out.frozen 1
             have y4 := HE2'.out.lt
             go_wp2_with fail
             have hb7 := zm (zm HE2'.out 0 (.slice v1a A1.length v1c)) 1 (.slice v2a A2.length v2c)
             have hg7 := zai (zai (zp wr (w.heap.size + 1 + 1)) 0 (.slice v1a A1.length v1c)) 1 (.slice v2a A2.length v2c)
             generalize (wr.setCell ⟨w.heap.size + 1 + 1, 0, none⟩ (.slice v1a A1.length v1c)).setCell ⟨w.heap.size + 1 + 1, 1, none⟩ (.slice v2a A2.length v2c) = w7 at *
             have r0 : w7.cell? ⟨w.heap.size + 1 + 1, 0, none⟩ = some (.slice v1a A1.length v1c) := hb7.cell 0
             have r1 : w7.cell? ⟨w.heap.size + 1 + 1, 1, none⟩ = some (.slice v2a A2.length v2c) := hb7.cell 1
             have hbz := zh3 HBW.out hg7 (by omega) HBW.out.size
             refine bodyPost_ret (v := .tuple #[frV ⟨List.zipWith J A1 B1, List.zipWith J A2 B2⟩ ⟨v1a, v1c, v2a, v2c⟩, .bool true]) (by simp [results, Tryz.results121, go_sem, r0, r1, frV, Z1.out, Z2.out]) rfl ⟨hbz, Or.inr ⟨⟨E1.out, E2.out⟩, _, rfl, ⟨?_, ?_⟩, ?_, ?_⟩⟩
             . exact zcs hg7 HR1'.out (fun ad e => by have := HN1.out ad e; omega)
             . exact zcs hg7 HR2.out (fun ad e => by have := HN2.out ad e; omega)
             . exact fun ad e => by have := HN1.out ad e; omega
             . exact fun ad e => by have := HN2.out ad e; omega
   . have q2 : ((A2.length : Int) != (B2.length : Int)) = true := by rw [bne_iff_ne]; omega
     have q1 : ((A1.length : Int) != (B1.length : Int)) = false := by rw [bne_eq_false_iff_eq]; omega
     have HN := Hq (show ¬ (A1.length = B1.length /\ A2.length = B2.length) from fun h => e2 h.2)
     have hbb := Hq (fun o1 o2 o3 => ze (ze (ze (Below.refl w.heap.size w) o1) o2) o3)
     clear e1 e2
     go_enter Tryz.func121, Tryz.ntmps121
     go_wp2_with fail
     exact bodyPost_ret (v := .tuple #[frV ⟨[], []⟩ z6r, .bool false]) (by simp [results, Tryz.results121, go_sem, frV, z6r]) rfl ⟨hbb.out _ _ _, Or.inl ⟨HN.out, rfl⟩⟩
 . have q1 : ((A1.length : Int) != (B1.length : Int)) = true := by rw [bne_iff_ne]; omega
   have HN := Hq (show ¬ (A1.length = B1.length /\ A2.length = B2.length) from fun h => e1 h.1)
   have hbb := Hq (fun o1 o2 o3 => ze (ze (ze (Below.refl w.heap.size w) o1) o2) o3)
   clear e1
   go_enter Tryz.func121, Tryz.ntmps121
   go_wp2_with fail
   exact bodyPost_ret (v := .tuple #[frV ⟨[], []⟩ z6r, .bool false]) (by simp [results, Tryz.results121, go_sem, frV, z6r]) rfl ⟨hbb.out _ _ _, Or.inl ⟨HN.out, rfl⟩⟩
end Go.Proofs.YtbnkckjdgpiggaaGreatDoor
