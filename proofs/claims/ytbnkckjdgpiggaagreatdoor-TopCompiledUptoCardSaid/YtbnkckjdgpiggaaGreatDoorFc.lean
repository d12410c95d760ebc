import Derived.Test.YtbnkckjdgpiggaaGreatDoorInsBase
namespace Go.Proofs.YtbnkckjdgpiggaaGreatDoor
set_option maxRecDepth 100000
set_option maxHeartbeats 16000000
set_option linter.unusedVariables false
set_option linter.unusedSimpArgs false
open Go.RowKit Go.Shelf Go.Lib
theorem zoy (n : Nat) (a b : Int) (ty cl nm : List UInt8) (h1 : 1 <= n) (h2 : n <= 28) (hnd : zgh n = []) (hl : ty.length <= 8388608) (w : World) (hF : zaw w) : zf2 ⟨n, a, b, ty, cl, nm⟩ w := by
 have hr : zar ⟨n, a, b, ty, cl, nm⟩ = (if (a != 0 || b != 0 || ty != [] || cl != [] || nm != []) then 1 else if !za5 ⟨n, a, b, ty, cl, nm⟩ then 2 else if (!zbc ⟨n, a, b, ty, cl, nm⟩) then 1 else 0) := by
   unfold zar
   rw [if_neg (by simp only; omega)]
   simp only [Int.toNat_natCast, hnd]
   simp
 unfold zf2
 generalize hE : zar ⟨n, a, b, ty, cl, nm⟩ = E
 rw [hE] at hr
 clear hE
 unfold zfe
 have HO := Hq (fun w h => z6a n h1 h2 w h)
 rw [hnd] at HO
 have HF := Hq hF
 have HR := Hq (fun w => zg1 ⟨n, a, b, ty, cl, nm⟩ w)
 have HT := Hq (fun w => zic ⟨n, a, b, ty, cl, nm⟩ hl w)
 have HC := Hq (fun w => zbn cl w)
 have HM := Hq (fun w => zbn nm w)
 unfold zfe at HR HT
 clear hF hl
 generalize za5 ⟨n, a, b, ty, cl, nm⟩ = rB at HR hr
 generalize zbc ⟨n, a, b, ty, cl, nm⟩ = tB at HT hr
 generalize zr cl = cB at HC hr
 generalize zr nm = mB at HM hr
 have HE := Hq hr
 clear hnd hr
 go_enter Tryz.func218, Tryz.ntmps218
 go_wp2_with fail
 refine (HO.out _ (HF.out.below ((Below.refl _ _).alloc (Nat.le_refl _) _))).mono ?_
 rintro e w1 ⟨rfl, hb1⟩
 have hx := zh1 (wd := zm7 n) (nd := []) hb1
 go_wp2_with fail
 generalize hW : w1.alloc (.cells #[.string ⟨⟨zm7 n⟩⟩, .string ⟨⟨[]⟩⟩] 288) = W at hx |-
 generalize w1.heap.size = g at hx |-
 clear hW hb1 HO HF
 have HX := Hq hx
 obtain ⟨hbl, hlt, hg1, hg2, c0, c1, c2, c3, c4, c5, c6⟩ := hx
 have HBL := Hq hbl
 clear hbl
 by_cases za : a = 0
 case neg =>
   have y1 : (a == 0) = false := by rw [beq_eq_false_iff_ne]; exact za
   have y2 : (a != 0) = true := by rw [bne_iff_ne]; exact za
   refine (zf [] 65 g W c6).mono ?_
   rintro e w2 ⟨rfl, rfl⟩
   go_wp2_with fail
   go_ret
   exact ⟨by rw [HE.out]; simp [zaj, za], HBL.out⟩
 case pos =>
   subst za
   by_cases zb : b = 0
   case neg =>
     have y1 : (b == 0) = false := by rw [beq_eq_false_iff_ne]; exact zb
     have y2 : (b != 0) = true := by rw [bne_iff_ne]; exact zb
     refine (zf [] 65 g W c6).mono ?_
     rintro e w2 ⟨rfl, rfl⟩
     go_wp2_with fail
     refine (zf [] 66 g W c6).mono ?_
     rintro e w2 ⟨rfl, rfl⟩
     go_wp2_with fail
     go_ret
     exact ⟨by rw [HE.out]; simp [zaj, zb], HBL.out⟩
   case pos =>
     subst zb
     by_cases zty : ty = []
     case neg =>
       have y1 : (ty == []) = false := by rw [beq_eq_false_iff_ne]; exact zty
       have y2 : ty.isEmpty = false := by rw [List.isEmpty_eq_false_iff]; exact zty
       have y3 : (ty != []) = true := by rw [bne_iff_ne]; exact zty
       refine (zf [] 65 g W c6).mono ?_
       rintro e w2 ⟨rfl, rfl⟩
       go_wp2_with fail
       refine (zf [] 66 g W c6).mono ?_
       rintro e w2 ⟨rfl, rfl⟩
       go_wp2_with fail
       refine (zf [] 84 g W c6).mono ?_
       rintro e w2 ⟨rfl, rfl⟩
       go_wp2_with fail
       go_ret
       exact ⟨by rw [HE.out]; simp [zaj, zty], HBL.out⟩
     case pos =>
       subst zty
       by_cases zcl : cl = []
       case neg =>
         have y1 : (cl == []) = false := by rw [beq_eq_false_iff_ne]; exact zcl
         have y2 : cl.isEmpty = false := by rw [List.isEmpty_eq_false_iff]; exact zcl
         have y3 : (cl != []) = true := by rw [bne_iff_ne]; exact zcl
         refine (zf [] 65 g W c6).mono ?_
         rintro e w2 ⟨rfl, rfl⟩
         go_wp2_with fail
         refine (zf [] 66 g W c6).mono ?_
         rintro e w2 ⟨rfl, rfl⟩
         go_wp2_with fail
         refine (zf [] 84 g W c6).mono ?_
         rintro e w2 ⟨rfl, rfl⟩
         go_wp2_with fail
         refine (zf [] 67 g W c6).mono ?_
         rintro e w2 ⟨rfl, rfl⟩
         go_wp2_with fail
         go_ret
         exact ⟨by rw [HE.out]; simp [zaj, zcl], HBL.out⟩
       case pos =>
         subst zcl
         by_cases znm : nm = []
         case neg =>
           have y1 : (nm == []) = false := by rw [beq_eq_false_iff_ne]; exact znm
           have y2 : nm.isEmpty = false := by rw [List.isEmpty_eq_false_iff]; exact znm
           have y3 : (nm != []) = true := by rw [bne_iff_ne]; exact znm
           refine (zf [] 65 g W c6).mono ?_
           rintro e w2 ⟨rfl, rfl⟩
           go_wp2_with fail
           refine (zf [] 66 g W c6).mono ?_
           rintro e w2 ⟨rfl, rfl⟩
           go_wp2_with fail
           refine (zf [] 84 g W c6).mono ?_
           rintro e w2 ⟨rfl, rfl⟩
           go_wp2_with fail
           refine (zf [] 67 g W c6).mono ?_
           rintro e w2 ⟨rfl, rfl⟩
           go_wp2_with fail
           refine (zf [] 78 g W c6).mono ?_
           rintro e w2 ⟨rfl, rfl⟩
           go_wp2_with fail
           go_ret
           exact ⟨by rw [HE.out]; simp [zaj, znm], HBL.out⟩
         case pos =>
           subst znm
           refine (zf [] 65 g W c6).mono ?_
           rintro e w2 ⟨rfl, rfl⟩
           go_wp2_with fail
           refine (zf [] 66 g W c6).mono ?_
           rintro e w2 ⟨rfl, rfl⟩
           go_wp2_with fail
           refine (zf [] 84 g W c6).mono ?_
           rintro e w2 ⟨rfl, rfl⟩
           go_wp2_with fail
           refine (zf [] 67 g W c6).mono ?_
           rintro e w2 ⟨rfl, rfl⟩
           go_wp2_with fail
           refine (zf [] 78 g W c6).mono ?_
           rintro e w2 ⟨rfl, rfl⟩
           go_wp2_with fail
           refine (HR.out _).mono ?_
           rintro e w2 ⟨rfl, hb2⟩
           obtain ⟨hbl2, hlt2, hg12, hg22, c02, c12, c22, c32, c42, c52, c62⟩ := HX.out.below hb2
           have HBL2 := Hq hbl2
           clear hbl2
           cases rB
           . go_wp2_with fail
             go_ret
             exact ⟨by rw [HE.out]; simp [zaj], HBL2.out⟩
           go_wp2_with fail
           refine (HT.out _).mono ?_
           rintro e w3 ⟨rfl, hb3⟩
           obtain ⟨hbl3, hlt3, hg13, hg23, c03, c13, c23, c33, c43, c53, c63⟩ := (HX.out.below hb2).below hb3
           have HBL3 := Hq hbl3
           clear hbl3 c02 c12 c22 c32 c42 c52 c62
           cases tB
           . go_wp2_with fail
             go_ret
             exact ⟨by rw [HE.out]; simp [zaj], HBL3.out⟩
           go_wp2_with fail
           refine (zf [] 67 g w3 c63).mono ?_
           rintro e w4 ⟨rfl, rfl⟩
           go_wp2_with fail
           refine (zf [] 78 g w3 c63).mono ?_
           rintro e w5 ⟨rfl, rfl⟩
           go_wp2_with fail
           go_ret
           exact ⟨by rw [HE.out]; simp [zaj], HBL3.out⟩
theorem zmp (n : Nat) (a b : Int) (ty cl nm : List UInt8) (h1 : 1 <= n) (h2 : n <= 28) (hnd : zgh n = [65, 84]) (hl : ty.length <= 8388608) (w : World) (hF : zaw w) : zf2 ⟨n, a, b, ty, cl, nm⟩ w := by
 have hr : zar ⟨n, a, b, ty, cl, nm⟩ = (if (b != 0 || cl != [] || nm != []) then 1 else if !za5 ⟨n, a, b, ty, cl, nm⟩ then 2 else if (!zbc ⟨n, a, b, ty, cl, nm⟩) then 1 else 0) := by
   unfold zar
   rw [if_neg (by simp only; omega)]
   simp only [Int.toNat_natCast, hnd]
   simp
 unfold zf2
 generalize hE : zar ⟨n, a, b, ty, cl, nm⟩ = E
 rw [hE] at hr
 clear hE
 unfold zfe
 have HO := Hq (fun w h => z6a n h1 h2 w h)
 rw [hnd] at HO
 have HF := Hq hF
 have HR := Hq (fun w => zg1 ⟨n, a, b, ty, cl, nm⟩ w)
 have HT := Hq (fun w => zic ⟨n, a, b, ty, cl, nm⟩ hl w)
 have HC := Hq (fun w => zbn cl w)
 have HM := Hq (fun w => zbn nm w)
 unfold zfe at HR HT
 clear hF hl
 generalize za5 ⟨n, a, b, ty, cl, nm⟩ = rB at HR hr
 generalize zbc ⟨n, a, b, ty, cl, nm⟩ = tB at HT hr
 generalize zr cl = cB at HC hr
 generalize zr nm = mB at HM hr
 have HE := Hq hr
 clear hnd hr
 go_enter Tryz.func218, Tryz.ntmps218
 go_wp2_with fail
 refine (HO.out _ (HF.out.below ((Below.refl _ _).alloc (Nat.le_refl _) _))).mono ?_
 rintro e w1 ⟨rfl, hb1⟩
 have hx := zh1 (wd := zm7 n) (nd := [65, 84]) hb1
 go_wp2_with fail
 generalize hW : w1.alloc (.cells #[.string ⟨⟨zm7 n⟩⟩, .string ⟨⟨[65, 84]⟩⟩] 288) = W at hx |-
 generalize w1.heap.size = g at hx |-
 clear hW hb1 HO HF
 have HX := Hq hx
 obtain ⟨hbl, hlt, hg1, hg2, c0, c1, c2, c3, c4, c5, c6⟩ := hx
 have HBL := Hq hbl
 clear hbl
 by_cases zb : b = 0
 case neg =>
   have y1 : (b == 0) = false := by rw [beq_eq_false_iff_ne]; exact zb
   have y2 : (b != 0) = true := by rw [bne_iff_ne]; exact zb
   refine (zf [65, 84] 65 g W c6).mono ?_
   rintro e w2 ⟨rfl, rfl⟩
   go_wp2_with fail
   refine (zf [65, 84] 66 g W c6).mono ?_
   rintro e w2 ⟨rfl, rfl⟩
   go_wp2_with fail
   go_ret
   exact ⟨by rw [HE.out]; simp [zaj, zb], HBL.out⟩
 case pos =>
   subst zb
   by_cases zcl : cl = []
   case neg =>
     have y1 : (cl == []) = false := by rw [beq_eq_false_iff_ne]; exact zcl
     have y2 : cl.isEmpty = false := by rw [List.isEmpty_eq_false_iff]; exact zcl
     have y3 : (cl != []) = true := by rw [bne_iff_ne]; exact zcl
     refine (zf [65, 84] 65 g W c6).mono ?_
     rintro e w2 ⟨rfl, rfl⟩
     go_wp2_with fail
     refine (zf [65, 84] 66 g W c6).mono ?_
     rintro e w2 ⟨rfl, rfl⟩
     go_wp2_with fail
     refine (zf [65, 84] 84 g W c6).mono ?_
     rintro e w2 ⟨rfl, rfl⟩
     go_wp2_with fail
     refine (zf [65, 84] 67 g W c6).mono ?_
     rintro e w2 ⟨rfl, rfl⟩
     go_wp2_with fail
     go_ret
     exact ⟨by rw [HE.out]; simp [zaj, zcl], HBL.out⟩
   case pos =>
     subst zcl
     by_cases znm : nm = []
     case neg =>
       have y1 : (nm == []) = false := by rw [beq_eq_false_iff_ne]; exact znm
       have y2 : nm.isEmpty = false := by rw [List.isEmpty_eq_false_iff]; exact znm
       have y3 : (nm != []) = true := by rw [bne_iff_ne]; exact znm
       refine (zf [65, 84] 65 g W c6).mono ?_
       rintro e w2 ⟨rfl, rfl⟩
       go_wp2_with fail
       refine (zf [65, 84] 66 g W c6).mono ?_
       rintro e w2 ⟨rfl, rfl⟩
       go_wp2_with fail
       refine (zf [65, 84] 84 g W c6).mono ?_
       rintro e w2 ⟨rfl, rfl⟩
       go_wp2_with fail
       refine (zf [65, 84] 67 g W c6).mono ?_
       rintro e w2 ⟨rfl, rfl⟩
       go_wp2_with fail
       refine (zf [65, 84] 78 g W c6).mono ?_
       rintro e w2 ⟨rfl, rfl⟩
       go_wp2_with fail
       go_ret
       exact ⟨by rw [HE.out]; simp [zaj, znm], HBL.out⟩
     case pos =>
       subst znm
       refine (zf [65, 84] 65 g W c6).mono ?_
       rintro e w2 ⟨rfl, rfl⟩
       go_wp2_with fail
       refine (zf [65, 84] 66 g W c6).mono ?_
       rintro e w2 ⟨rfl, rfl⟩
       go_wp2_with fail
       refine (zf [65, 84] 84 g W c6).mono ?_
       rintro e w2 ⟨rfl, rfl⟩
       go_wp2_with fail
       refine (zf [65, 84] 67 g W c6).mono ?_
       rintro e w2 ⟨rfl, rfl⟩
       go_wp2_with fail
       refine (zf [65, 84] 78 g W c6).mono ?_
       rintro e w2 ⟨rfl, rfl⟩
       go_wp2_with fail
       refine (HR.out _).mono ?_
       rintro e w2 ⟨rfl, hb2⟩
       obtain ⟨hbl2, hlt2, hg12, hg22, c02, c12, c22, c32, c42, c52, c62⟩ := HX.out.below hb2
       have HBL2 := Hq hbl2
       clear hbl2
       cases rB
       . go_wp2_with fail
         go_ret
         exact ⟨by rw [HE.out]; simp [zaj], HBL2.out⟩
       go_wp2_with fail
       refine (HT.out _).mono ?_
       rintro e w3 ⟨rfl, hb3⟩
       obtain ⟨hbl3, hlt3, hg13, hg23, c03, c13, c23, c33, c43, c53, c63⟩ := (HX.out.below hb2).below hb3
       have HBL3 := Hq hbl3
       clear hbl3 c02 c12 c22 c32 c42 c52 c62
       cases tB
       . go_wp2_with fail
         go_ret
         exact ⟨by rw [HE.out]; simp [zaj], HBL3.out⟩
       go_wp2_with fail
       refine (zf [65, 84] 67 g w3 c63).mono ?_
       rintro e w4 ⟨rfl, rfl⟩
       go_wp2_with fail
       refine (zf [65, 84] 78 g w3 c63).mono ?_
       rintro e w5 ⟨rfl, rfl⟩
       go_wp2_with fail
       go_ret
       exact ⟨by rw [HE.out]; simp [zaj], HBL3.out⟩
theorem zv3 (n : Nat) (a b : Int) (ty cl nm : List UInt8) (h1 : 1 <= n) (h2 : n <= 28) (hnd : zgh n = [65]) (hl : ty.length <= 8388608) (w : World) (hF : zaw w) : zf2 ⟨n, a, b, ty, cl, nm⟩ w := by
 have hr : zar ⟨n, a, b, ty, cl, nm⟩ = (if (b != 0 || ty != [] || cl != [] || nm != []) then 1 else if !za5 ⟨n, a, b, ty, cl, nm⟩ then 2 else if (!zbc ⟨n, a, b, ty, cl, nm⟩) then 1 else 0) := by
   unfold zar
   rw [if_neg (by simp only; omega)]
   simp only [Int.toNat_natCast, hnd]
   simp
 unfold zf2
 generalize hE : zar ⟨n, a, b, ty, cl, nm⟩ = E
 rw [hE] at hr
 clear hE
 unfold zfe
 have HO := Hq (fun w h => z6a n h1 h2 w h)
 rw [hnd] at HO
 have HF := Hq hF
 have HR := Hq (fun w => zg1 ⟨n, a, b, ty, cl, nm⟩ w)
 have HT := Hq (fun w => zic ⟨n, a, b, ty, cl, nm⟩ hl w)
 have HC := Hq (fun w => zbn cl w)
 have HM := Hq (fun w => zbn nm w)
 unfold zfe at HR HT
 clear hF hl
 generalize za5 ⟨n, a, b, ty, cl, nm⟩ = rB at HR hr
 generalize zbc ⟨n, a, b, ty, cl, nm⟩ = tB at HT hr
 generalize zr cl = cB at HC hr
 generalize zr nm = mB at HM hr
 have HE := Hq hr
 clear hnd hr
 go_enter Tryz.func218, Tryz.ntmps218
 go_wp2_with fail
 refine (HO.out _ (HF.out.below ((Below.refl _ _).alloc (Nat.le_refl _) _))).mono ?_
 rintro e w1 ⟨rfl, hb1⟩
 have hx := zh1 (wd := zm7 n) (nd := [65]) hb1
 go_wp2_with fail
 generalize hW : w1.alloc (.cells #[.string ⟨⟨zm7 n⟩⟩, .string ⟨⟨[65]⟩⟩] 288) = W at hx |-
 generalize w1.heap.size = g at hx |-
 clear hW hb1 HO HF
 have HX := Hq hx
 obtain ⟨hbl, hlt, hg1, hg2, c0, c1, c2, c3, c4, c5, c6⟩ := hx
 have HBL := Hq hbl
 clear hbl
 by_cases zb : b = 0
 case neg =>
   have y1 : (b == 0) = false := by rw [beq_eq_false_iff_ne]; exact zb
   have y2 : (b != 0) = true := by rw [bne_iff_ne]; exact zb
   refine (zf [65] 65 g W c6).mono ?_
   rintro e w2 ⟨rfl, rfl⟩
   go_wp2_with fail
   refine (zf [65] 66 g W c6).mono ?_
   rintro e w2 ⟨rfl, rfl⟩
   go_wp2_with fail
   go_ret
   exact ⟨by rw [HE.out]; simp [zaj, zb], HBL.out⟩
 case pos =>
   subst zb
   by_cases zty : ty = []
   case neg =>
     have y1 : (ty == []) = false := by rw [beq_eq_false_iff_ne]; exact zty
     have y2 : ty.isEmpty = false := by rw [List.isEmpty_eq_false_iff]; exact zty
     have y3 : (ty != []) = true := by rw [bne_iff_ne]; exact zty
     refine (zf [65] 65 g W c6).mono ?_
     rintro e w2 ⟨rfl, rfl⟩
     go_wp2_with fail
     refine (zf [65] 66 g W c6).mono ?_
     rintro e w2 ⟨rfl, rfl⟩
     go_wp2_with fail
     refine (zf [65] 84 g W c6).mono ?_
     rintro e w2 ⟨rfl, rfl⟩
     go_wp2_with fail
     go_ret
     exact ⟨by rw [HE.out]; simp [zaj, zty], HBL.out⟩
   case pos =>
     subst zty
     by_cases zcl : cl = []
     case neg =>
       have y1 : (cl == []) = false := by rw [beq_eq_false_iff_ne]; exact zcl
       have y2 : cl.isEmpty = false := by rw [List.isEmpty_eq_false_iff]; exact zcl
       have y3 : (cl != []) = true := by rw [bne_iff_ne]; exact zcl
       refine (zf [65] 65 g W c6).mono ?_
       rintro e w2 ⟨rfl, rfl⟩
       go_wp2_with fail
       refine (zf [65] 66 g W c6).mono ?_
       rintro e w2 ⟨rfl, rfl⟩
       go_wp2_with fail
       refine (zf [65] 84 g W c6).mono ?_
       rintro e w2 ⟨rfl, rfl⟩
       go_wp2_with fail
       refine (zf [65] 67 g W c6).mono ?_
       rintro e w2 ⟨rfl, rfl⟩
       go_wp2_with fail
       go_ret
       exact ⟨by rw [HE.out]; simp [zaj, zcl], HBL.out⟩
     case pos =>
       subst zcl
       by_cases znm : nm = []
       case neg =>
         have y1 : (nm == []) = false := by rw [beq_eq_false_iff_ne]; exact znm
         have y2 : nm.isEmpty = false := by rw [List.isEmpty_eq_false_iff]; exact znm
         have y3 : (nm != []) = true := by rw [bne_iff_ne]; exact znm
         refine (zf [65] 65 g W c6).mono ?_
         rintro e w2 ⟨rfl, rfl⟩
         go_wp2_with fail
         refine (zf [65] 66 g W c6).mono ?_
         rintro e w2 ⟨rfl, rfl⟩
         go_wp2_with fail
         refine (zf [65] 84 g W c6).mono ?_
         rintro e w2 ⟨rfl, rfl⟩
         go_wp2_with fail
         refine (zf [65] 67 g W c6).mono ?_
         rintro e w2 ⟨rfl, rfl⟩
         go_wp2_with fail
         refine (zf [65] 78 g W c6).mono ?_
         rintro e w2 ⟨rfl, rfl⟩
         go_wp2_with fail
         go_ret
         exact ⟨by rw [HE.out]; simp [zaj, znm], HBL.out⟩
       case pos =>
         subst znm
         refine (zf [65] 65 g W c6).mono ?_
         rintro e w2 ⟨rfl, rfl⟩
         go_wp2_with fail
         refine (zf [65] 66 g W c6).mono ?_
         rintro e w2 ⟨rfl, rfl⟩
         go_wp2_with fail
         refine (zf [65] 84 g W c6).mono ?_
         rintro e w2 ⟨rfl, rfl⟩
         go_wp2_with fail
         refine (zf [65] 67 g W c6).mono ?_
         rintro e w2 ⟨rfl, rfl⟩
         go_wp2_with fail
         refine (zf [65] 78 g W c6).mono ?_
         rintro e w2 ⟨rfl, rfl⟩
         go_wp2_with fail
         refine (HR.out _).mono ?_
         rintro e w2 ⟨rfl, hb2⟩
         obtain ⟨hbl2, hlt2, hg12, hg22, c02, c12, c22, c32, c42, c52, c62⟩ := HX.out.below hb2
         have HBL2 := Hq hbl2
         clear hbl2
         cases rB
         . go_wp2_with fail
           go_ret
           exact ⟨by rw [HE.out]; simp [zaj], HBL2.out⟩
         go_wp2_with fail
         refine (HT.out _).mono ?_
         rintro e w3 ⟨rfl, hb3⟩
         obtain ⟨hbl3, hlt3, hg13, hg23, c03, c13, c23, c33, c43, c53, c63⟩ := (HX.out.below hb2).below hb3
         have HBL3 := Hq hbl3
         clear hbl3 c02 c12 c22 c32 c42 c52 c62
         cases tB
         . go_wp2_with fail
           go_ret
           exact ⟨by rw [HE.out]; simp [zaj], HBL3.out⟩
         go_wp2_with fail
         refine (zf [65] 67 g w3 c63).mono ?_
         rintro e w4 ⟨rfl, rfl⟩
         go_wp2_with fail
         refine (zf [65] 78 g w3 c63).mono ?_
         rintro e w5 ⟨rfl, rfl⟩
         go_wp2_with fail
         go_ret
         exact ⟨by rw [HE.out]; simp [zaj], HBL3.out⟩
theorem zhz (x : zal) (hl : x.ty.length <= 8388608 /\ OpK x) (w : World) (hF : zaw w) : zf2 x w := by
 obtain ⟨op, a, b, ty, cl, nm⟩ := x
 obtain ⟨hl, ho⟩ := hl
 unfold OpK at ho
 dsimp only at hl ho
 rcases ho with rfl | rfl | rfl | rfl
 . exact zmp 2 a b ty cl nm (by decide) (by decide) rfl hl w hF
 . exact zv3 4 a b ty cl nm (by decide) (by decide) rfl hl w hF
 . exact zmp 9 a b ty cl nm (by decide) (by decide) rfl hl w hF
 . exact zoy 27 a b ty cl nm (by decide) (by decide) rfl hl w hF
theorem z7l (x : zal) (hl : x.ty.length <= 8388608 /\ OpK x) (w : World) (hF : zaw w) (h : zar x = 0) : Calls Tryz.prog 218 #[zfe x] w fun e w' => e = .returned .nilIface /\ Below w.heap.size w w' := by
 have := zhz x hl w hF
 unfold zf2 at this
 rw [h] at this
 exact this
theorem z4v (x : zal) (hl : x.ty.length <= 8388608 /\ OpK x) (w : World) (hF : zaw w) (h : zar x ≠ 0) : Calls Tryz.prog 218 #[zfe x] w fun e w' => e = .returned (zby (zar x)) /\ Below w.heap.size w w' := by
 have := zhz x hl w hF
 unfold zf2 zaj at this
 rw [if_neg h] at this
 exact this
theorem zn2 (op : Int) (w : World) : Calls Tryz.prog 164 #[.int .i64 op] w fun e w' => e = .returned (.bool (zko op)) /\ w = w' := by
 go_enter Tryz.func164, Tryz.ntmps164
 go_wp2_with fail
 all_goals go_ret
 all_goals refine ⟨zaa ?_, rfl⟩
 all_goals (rw [Bool.eq_iff_iff]; simp [zko, or_assoc]; try omega)
theorem zn7 (op : Int) (w : World) : Calls Tryz.prog 165 #[.int .i64 op] w fun e w' => e = .returned (.bool (zcb op)) /\ w = w' := (zla op w).mono fun _ _ ⟨h1, h2⟩ => ⟨h1, h2.symm⟩
theorem zma : ∀ (l : List zal) (k : Nat) (x : zal), (∀ y ∈ l.take k, zar y = 0) -> l[k]? = some x -> zar x ≠ 0 -> zdk l = zar x
 | [], k, x, _, h, _ => by simp at h
 | y :: l, 0, x, _, h, hx => by
   simp at h; subst h
   simp [zdk, hx]
 | y :: l, k + 1, x, h, hk, hx => by
   have h1 := h y (by simp)
   simp only [zdk, h1, if_true]
   exact zma l k x (fun z hz => h z (by simp [hz])) (by simpa using hk) hx
theorem za8 {α : Type} {P : α -> Prop} {l : List α} {k : Nat} {x : α} (h : ∀ y ∈ l.take k, P y) (hx : l[k]? = some x) (hp : P x) : ∀ y ∈ l.take (k + 1), P y := by
 obtain ⟨hk, rfl⟩ := List.getElem?_eq_some_iff.1 hx
 intro y hy
 rw [List.take_succ_eq_append_getElem hk] at hy
 rcases List.mem_append.1 hy with h1 | h1
 . exact h y h1
 . simp at h1; rw [h1]; exact hp
theorem zk6 (l : List zal) (a : Option Addr) (cap : Nat) (w : World) (hC : zcy w a cap l) (hF : zaw w) (hT : ∀ x ∈ l, x.ty.length <= 8388608 /\ OpK x) :
   Calls Tryz.prog 183 #[.slice a l.length cap] w fun e w' => e = .returned (zaj (zbm l)) /\ Below w.heap.size w w' := by
 by_cases h40 : 40 < l.length
 . have hr : zbm l = 4 := by unfold zbm; rw [if_pos h40]
   rw [hr]
   clear hr
   go_enter Tryz.func183, Tryz.ntmps183
   go_wp2_with fail
   go_ret
   exact ⟨rfl, Below.refl _ _⟩
 generalize hE : zaj (zbm l) = E
 have HE := Hq hE
 have HC := Hq hC
 have HF := Hq hF
 have HT := Hq hT
 have h40' : l.length <= 40 := by omega
 clear hE hC hF hT h40
 go_enter Tryz.func183, Tryz.ntmps183
 go_wp2_with fail
 go_loopw [14] (fun i wr => ∃ k : Nat, k <= l.length /\ i = .int .i64 k /\ Below w.heap.size w wr /\ Hid (∀ y ∈ l.take k, zar y = 0)) (fun i _ => l.length - (RowKit.intOf i).toNat)
 case atStart => exact ⟨0, by omega, rfl, Below.refl _ _, Hq (by simp)⟩
 case round =>
   obtain ⟨k, hk, rfl, hwr, hz⟩ := hrel
   have HW := Hq hwr
   clear hwr
   by_cases hlk : k < l.length
   . obtain ⟨x, hx⟩ : ∃ x, l[k]? = some x := ⟨_, List.getElem?_eq_getElem hlk⟩
     have hcw := HC.out.below HW.out
     obtain ⟨b, off, rfl, hlt, c0, c1, c2, c3, c4, c5⟩ := hcw.cells hx
     have HX := Hq hx
     have hxl := HT.out x (List.mem_of_getElem? hx)
     have HFW := Hq (HF.out.below HW.out)
     clear hx hcw
     by_cases he : zar x = 0
     . have HK := Hq (fun w hF => z7l x hxl w hF he)
       have HN := Hq (za8 hz HX.out he)
       clear hz he
       unfold zfe at HK
       go_wp2_with fail
       refine (HK.out _ (HFW.out.below ((Below.refl _ _).alloc (Nat.le_refl _) _))).mono ?_
       rintro e w1 ⟨rfl, hb1⟩
       go_wp2_with fail
       go_roundw
       case rel => exact ⟨k + 1, by omega, by go_num, zc HW.out (zq hb1), HN.out⟩
       case measure => simp [RowKit.intOf]; omega
     . have HK := Hq (fun w hF => z4v x hxl w hF he)
       have hr : zbm l = zar x := by
         have h1 := zma l k x hz HX.out he
         unfold zbm
         rw [if_neg (by omega), h1, if_pos he]
       have HEE := Hq (show E = zby (zar x) by rw [<- HE.out, hr]; unfold zaj; rw [if_neg he])
       clear hz he hr
       unfold zfe at HK
       go_wp2_with fail
       refine (HK.out _ (HFW.out.below ((Below.refl _ _).alloc (Nat.le_refl _) _))).mono ?_
       rintro e w1 ⟨rfl, hb1⟩
       go_wp2_with fail
       go_ret
       exact ⟨by rw [HEE.out]; rfl, zc HW.out (zq hb1)⟩
   . obtain rfl : k = l.length := by omega
     rw [List.take_length] at hz
     have HZ := Hq ((zd9 l).2 hz)
     clear hz hlk
     go_wp2_with fail
     go_loopw [26] (fun i wq => ∃ k : Nat, k <= l.length /\ i = .int .i64 k /\ Below w.heap.size w wq /\ Hid (∀ y ∈ l.take k, ¬ (zcb y.op = true /\ (l.length : Int) <= y.a))) (fun i _ => l.length - (RowKit.intOf i).toNat)
     case atStart => exact ⟨0, by omega, rfl, HW.out, Hq (by simp)⟩
     case round =>
       obtain ⟨k, hk, rfl, hwr, hz⟩ := hrel
       have HW2 := Hq hwr
       clear hwr HW
       have HZZ := Hq hz
       clear hz
       by_cases hlk : k < l.length
       . obtain ⟨x, hx⟩ : ∃ x, l[k]? = some x := ⟨_, List.getElem?_eq_getElem hlk⟩
         have hcw := HC.out.below HW2.out
         obtain ⟨b, off, rfl, hlt, c0, c1, c2, c3, c4, c5⟩ := hcw.cells hx
         have HX := Hq hx
         clear hx hcw
         have HJ := Hq (fun w => zn7 x.op w)
         cases hj : zcb x.op with
         | false =>
           have HN := Hq (za8 HZZ.out.out HX.out (by rw [hj]; simp))
           rw [hj] at HJ
           clear hj HZZ
           go_wp2_with fail
           refine (HJ.out _).mono ?_
           rintro e w1 ⟨rfl, rfl⟩
           go_wp2_with fail
           go_roundw
           case rel => exact ⟨k + 1, by omega, by go_num, HW2.out.alloc (HW2.out.size) _, HN.out⟩
           case measure => simp [RowKit.intOf]; omega
         | true =>
           rw [hj] at HJ
           by_cases hge : (l.length : Int) <= x.a
           . have hr : zbm l = 2 := by
               unfold zbm
               rw [if_neg (by omega), HZ.out, if_neg (by simp), if_pos]
               rw [List.any_eq_true]
               exact ⟨x, List.mem_of_getElem? HX.out, by rw [hj]; simpa using hge⟩
             have HEE := Hq (show E = zby 2 by rw [<- HE.out, hr]; rfl)
             clear hr hj HZZ
             go_wp2_with fail
             refine (HJ.out _).mono ?_
             rintro e w1 ⟨rfl, rfl⟩
             go_wp2_with fail
             go_ret
             exact ⟨by rw [HEE.out]; rfl, HW2.out.alloc (HW2.out.size) _⟩
           . have HN := Hq (za8 HZZ.out.out HX.out (by intro h; exact hge h.2))
             have hlt2 : x.a < (l.length : Int) := by omega
             clear hge hj HZZ
             go_wp2_with fail
             refine (HJ.out _).mono ?_
             rintro e w1 ⟨rfl, rfl⟩
             go_wp2_with fail
             go_roundw
             case rel => exact ⟨k + 1, by omega, by go_num, HW2.out.alloc (HW2.out.size) _, HN.out⟩
             case measure => simp [RowKit.intOf]; omega
       . obtain rfl : k = l.length := by omega
         have hz2 := HZZ.out.out
         rw [List.take_length] at hz2
         have hany : l.any (fun x => zcb x.op && decide ((l.length : Int) <= x.a)) = false := by
           rw [List.any_eq_false]
           intro x hx h
           simp only [Bool.and_eq_true, decide_eq_true_eq] at h
           exact hz2 x hx h
         have hr : zbm l = if zqs l then 0 else 8 := by
           unfold zbm
           rw [if_neg (by omega), HZ.out, if_neg (by simp), hany, if_neg (by simp)]
         have HR := Hq hr
         clear hr hany hz2 HZZ hlk
         by_cases hl : l = []
         . have HEE := Hq (show E = zby 8 by rw [<- HE.out, HR.out, hl]; rfl)
           subst hl
           go_wp2_with fail
           go_ret
           exact ⟨by rw [HEE.out]; rfl, HW2.out⟩
         . have hpos : 0 < l.length := List.length_pos_iff.2 hl
           obtain ⟨x, hx⟩ : ∃ x, l[l.length - 1]? = some x := ⟨_, List.getElem?_eq_getElem (by omega)⟩
           have hcw := HC.out.below HW2.out
           obtain ⟨b, off, rfl, hlt, c0, c1, c2, c3, c4, c5⟩ := hcw.cells hx
           have hlast : zqs l = zko x.op := by unfold zqs; rw [List.getLast?_eq_getElem?, hx]
           have HEE := Hq (show E = if zko x.op then .nilIface else zby 8 by
             rw [<- HE.out, HR.out, hlast]
             cases zko x.op <;> rfl)
           have HJ := Hq (fun w => zn2 x.op w)
           clear hx hlast hcw
           cases he : zko x.op with
           | false =>
             rw [he] at HJ HEE
             clear he
             go_wp2_with fail
             refine (HJ.out _).mono ?_
             rintro e w1 ⟨rfl, rfl⟩
             go_wp2_with fail
             go_ret
             exact ⟨by rw [HEE.out]; rfl, HW2.out⟩
           | true =>
             rw [he] at HJ HEE
             clear he
             go_wp2_with fail
             refine (HJ.out _).mono ?_
             rintro e w1 ⟨rfl, rfl⟩
             go_wp2_with fail
             go_ret
             exact ⟨by rw [HEE.out]; rfl, HW2.out⟩
end Go.Proofs.YtbnkckjdgpiggaaGreatDoor
