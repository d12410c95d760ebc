import Derived.Test.YtddbnboicmaooaaGreatDoorInsBase
namespace Go.Proofs.YtddbnboicmaooaaGreatDoor
set_option maxRecDepth 100000
set_option maxHeartbeats 16000000
set_option linter.unusedVariables false
set_option linter.unusedSimpArgs false
open Go.RowKit Go.Shelf Go.Lib
theorem insCheck_AB (n : Nat) (a b : Int) (ty cl nm : List UInt8) (h1 : 1 ≤ n) (h2 : n ≤ 28) (hnd : needL n = [65, 66]) (hl : ty.length ≤ 8388608) (w : World) (hF : FormsAt w) : CheckAt ⟨n, a, b, ty, cl, nm⟩ w := by
 have hr : insErr ⟨n, a, b, ty, cl, nm⟩ = (if (ty != [] || cl != [] || nm != []) then 1 else if !rangedB ⟨n, a, b, ty, cl, nm⟩ then 2 else if (!typedB ⟨n, a, b, ty, cl, nm⟩) then 1 else 0) := by
   unfold insErr
   rw [if_neg (by simp only; omega)]
   simp only [Int.toNat_natCast, hnd]
   simp
 unfold CheckAt
 generalize hE : insErr ⟨n, a, b, ty, cl, nm⟩ = E
 rw [hE] at hr
 clear hE
 unfold insV
 have HO := Hd (fun w h => of_in n h1 h2 w h)
 rw [hnd] at HO
 have HF := Hd hF
 have HR := Hd (fun w => ranged_calls ⟨n, a, b, ty, cl, nm⟩ w)
 have HT := Hd (fun w => typed_calls ⟨n, a, b, ty, cl, nm⟩ hl w)
 have HC := Hd (fun w => name_calls cl w)
 have HM := Hd (fun w => name_calls nm w)
 unfold insV at HR HT
 clear hF hl
 generalize rangedB ⟨n, a, b, ty, cl, nm⟩ = rB at HR hr
 generalize typedB ⟨n, a, b, ty, cl, nm⟩ = tB at HT hr
 generalize nameOk cl = cB at HC hr
 generalize nameOk nm = mB at HM hr
 have HE := Hd hr
 clear hnd hr
 go_enter Tryz.func43, Tryz.ntmps43
 go_wp2_with fail
 refine (HO.out _ (HF.out.below ((Below.refl _ _).alloc (Nat.le_refl _) _))).mono ?_
 rintro e w1 ⟨rfl, hb1⟩
 have hx := boxed_start (wd := wordL n) (nd := [65, 66]) hb1
 go_wp2_with fail
 generalize hW : w1.alloc (.cells #[.string ⟨⟨wordL n⟩⟩, .string ⟨⟨[65, 66]⟩⟩] 162) = W at hx ⊢
 generalize w1.heap.size = g at hx ⊢
 clear hW hb1 HO HF
 have HX := Hd hx
 obtain ⟨hbl, hlt, hg1, hg2, c0, c1, c2, c3, c4, c5, c6⟩ := hx
 have HBL := Hd hbl
 clear hbl
 by_cases zty : ty = []
 case neg =>
   have y1 : (ty == []) = false := by rw [beq_eq_false_iff_ne]; exact zty
   have y2 : ty.isEmpty = false := by rw [List.isEmpty_eq_false_iff]; exact zty
   have y3 : (ty != []) = true := by rw [bne_iff_ne]; exact zty
   refine (needs_calls [65, 66] 65 g W c6).mono ?_
   rintro e w2 ⟨rfl, rfl⟩
   go_wp2_with fail
   refine (needs_calls [65, 66] 66 g W c6).mono ?_
   rintro e w2 ⟨rfl, rfl⟩
   go_wp2_with fail
   refine (needs_calls [65, 66] 84 g W c6).mono ?_
   rintro e w2 ⟨rfl, rfl⟩
   go_wp2_with fail
   go_ret
   exact ⟨by rw [HE.out]; simp [errOf, zty], HBL.out⟩
 case pos =>
   subst zty
   by_cases zcl : cl = []
   case neg =>
     have y1 : (cl == []) = false := by rw [beq_eq_false_iff_ne]; exact zcl
     have y2 : cl.isEmpty = false := by rw [List.isEmpty_eq_false_iff]; exact zcl
     have y3 : (cl != []) = true := by rw [bne_iff_ne]; exact zcl
     refine (needs_calls [65, 66] 65 g W c6).mono ?_
     rintro e w2 ⟨rfl, rfl⟩
     go_wp2_with fail
     refine (needs_calls [65, 66] 66 g W c6).mono ?_
     rintro e w2 ⟨rfl, rfl⟩
     go_wp2_with fail
     refine (needs_calls [65, 66] 84 g W c6).mono ?_
     rintro e w2 ⟨rfl, rfl⟩
     go_wp2_with fail
     refine (needs_calls [65, 66] 67 g W c6).mono ?_
     rintro e w2 ⟨rfl, rfl⟩
     go_wp2_with fail
     go_ret
     exact ⟨by rw [HE.out]; simp [errOf, zcl], HBL.out⟩
   case pos =>
     subst zcl
     by_cases znm : nm = []
     case neg =>
       have y1 : (nm == []) = false := by rw [beq_eq_false_iff_ne]; exact znm
       have y2 : nm.isEmpty = false := by rw [List.isEmpty_eq_false_iff]; exact znm
       have y3 : (nm != []) = true := by rw [bne_iff_ne]; exact znm
       refine (needs_calls [65, 66] 65 g W c6).mono ?_
       rintro e w2 ⟨rfl, rfl⟩
       go_wp2_with fail
       refine (needs_calls [65, 66] 66 g W c6).mono ?_
       rintro e w2 ⟨rfl, rfl⟩
       go_wp2_with fail
       refine (needs_calls [65, 66] 84 g W c6).mono ?_
       rintro e w2 ⟨rfl, rfl⟩
       go_wp2_with fail
       refine (needs_calls [65, 66] 67 g W c6).mono ?_
       rintro e w2 ⟨rfl, rfl⟩
       go_wp2_with fail
       refine (needs_calls [65, 66] 78 g W c6).mono ?_
       rintro e w2 ⟨rfl, rfl⟩
       go_wp2_with fail
       go_ret
       exact ⟨by rw [HE.out]; simp [errOf, znm], HBL.out⟩
     case pos =>
       subst znm
       refine (needs_calls [65, 66] 65 g W c6).mono ?_
       rintro e w2 ⟨rfl, rfl⟩
       go_wp2_with fail
       refine (needs_calls [65, 66] 66 g W c6).mono ?_
       rintro e w2 ⟨rfl, rfl⟩
       go_wp2_with fail
       refine (needs_calls [65, 66] 84 g W c6).mono ?_
       rintro e w2 ⟨rfl, rfl⟩
       go_wp2_with fail
       refine (needs_calls [65, 66] 67 g W c6).mono ?_
       rintro e w2 ⟨rfl, rfl⟩
       go_wp2_with fail
       refine (needs_calls [65, 66] 78 g W c6).mono ?_
       rintro e w2 ⟨rfl, rfl⟩
       go_wp2_with fail
       refine (HR.out _).mono ?_
       rintro e w2 ⟨rfl, hb2⟩
       obtain ⟨hbl2, hlt2, hg12, hg22, c02, c12, c22, c32, c42, c52, c62⟩ := HX.out.below hb2
       have HBL2 := Hd hbl2
       clear hbl2
       cases rB
       · go_wp2_with fail
         go_ret
         exact ⟨by rw [HE.out]; simp [errOf], HBL2.out⟩
       go_wp2_with fail
       refine (HT.out _).mono ?_
       rintro e w3 ⟨rfl, hb3⟩
       obtain ⟨hbl3, hlt3, hg13, hg23, c03, c13, c23, c33, c43, c53, c63⟩ := (HX.out.below hb2).below hb3
       have HBL3 := Hd hbl3
       clear hbl3 c02 c12 c22 c32 c42 c52 c62
       cases tB
       · go_wp2_with fail
         go_ret
         exact ⟨by rw [HE.out]; simp [errOf], HBL3.out⟩
       go_wp2_with fail
       refine (needs_calls [65, 66] 67 g w3 c63).mono ?_
       rintro e w4 ⟨rfl, rfl⟩
       go_wp2_with fail
       refine (needs_calls [65, 66] 78 g w3 c63).mono ?_
       rintro e w5 ⟨rfl, rfl⟩
       go_wp2_with fail
       go_ret
       exact ⟨by rw [HE.out]; simp [errOf], HBL3.out⟩
theorem insCheck_C (n : Nat) (a b : Int) (ty cl nm : List UInt8) (h1 : 1 ≤ n) (h2 : n ≤ 28) (hnd : needL n = [67]) (hl : ty.length ≤ 8388608) (w : World) (hF : FormsAt w) : CheckAt ⟨n, a, b, ty, cl, nm⟩ w := by
 have hr : insErr ⟨n, a, b, ty, cl, nm⟩ = (if (a != 0 || b != 0 || ty != [] || nm != []) then 1 else if !rangedB ⟨n, a, b, ty, cl, nm⟩ then 2 else if (!typedB ⟨n, a, b, ty, cl, nm⟩ || !nameOk cl) then 1 else 0) := by
   unfold insErr
   rw [if_neg (by simp only; omega)]
   simp only [Int.toNat_natCast, hnd]
   simp
 unfold CheckAt
 generalize hE : insErr ⟨n, a, b, ty, cl, nm⟩ = E
 rw [hE] at hr
 clear hE
 unfold insV
 have HO := Hd (fun w h => of_in n h1 h2 w h)
 rw [hnd] at HO
 have HF := Hd hF
 have HR := Hd (fun w => ranged_calls ⟨n, a, b, ty, cl, nm⟩ w)
 have HT := Hd (fun w => typed_calls ⟨n, a, b, ty, cl, nm⟩ hl w)
 have HC := Hd (fun w => name_calls cl w)
 have HM := Hd (fun w => name_calls nm w)
 unfold insV at HR HT
 clear hF hl
 generalize rangedB ⟨n, a, b, ty, cl, nm⟩ = rB at HR hr
 generalize typedB ⟨n, a, b, ty, cl, nm⟩ = tB at HT hr
 generalize nameOk cl = cB at HC hr
 generalize nameOk nm = mB at HM hr
 have HE := Hd hr
 clear hnd hr
 go_enter Tryz.func43, Tryz.ntmps43
 go_wp2_with fail
 refine (HO.out _ (HF.out.below ((Below.refl _ _).alloc (Nat.le_refl _) _))).mono ?_
 rintro e w1 ⟨rfl, hb1⟩
 have hx := boxed_start (wd := wordL n) (nd := [67]) hb1
 go_wp2_with fail
 generalize hW : w1.alloc (.cells #[.string ⟨⟨wordL n⟩⟩, .string ⟨⟨[67]⟩⟩] 162) = W at hx ⊢
 generalize w1.heap.size = g at hx ⊢
 clear hW hb1 HO HF
 have HX := Hd hx
 obtain ⟨hbl, hlt, hg1, hg2, c0, c1, c2, c3, c4, c5, c6⟩ := hx
 have HBL := Hd hbl
 clear hbl
 by_cases za : a = 0
 case neg =>
   have y1 : (a == 0) = false := by rw [beq_eq_false_iff_ne]; exact za
   have y2 : (a != 0) = true := by rw [bne_iff_ne]; exact za
   refine (needs_calls [67] 65 g W c6).mono ?_
   rintro e w2 ⟨rfl, rfl⟩
   go_wp2_with fail
   go_ret
   exact ⟨by rw [HE.out]; simp [errOf, za], HBL.out⟩
 case pos =>
   subst za
   by_cases zb : b = 0
   case neg =>
     have y1 : (b == 0) = false := by rw [beq_eq_false_iff_ne]; exact zb
     have y2 : (b != 0) = true := by rw [bne_iff_ne]; exact zb
     refine (needs_calls [67] 65 g W c6).mono ?_
     rintro e w2 ⟨rfl, rfl⟩
     go_wp2_with fail
     refine (needs_calls [67] 66 g W c6).mono ?_
     rintro e w2 ⟨rfl, rfl⟩
     go_wp2_with fail
     go_ret
     exact ⟨by rw [HE.out]; simp [errOf, zb], HBL.out⟩
   case pos =>
     subst zb
     by_cases zty : ty = []
     case neg =>
       have y1 : (ty == []) = false := by rw [beq_eq_false_iff_ne]; exact zty
       have y2 : ty.isEmpty = false := by rw [List.isEmpty_eq_false_iff]; exact zty
       have y3 : (ty != []) = true := by rw [bne_iff_ne]; exact zty
       refine (needs_calls [67] 65 g W c6).mono ?_
       rintro e w2 ⟨rfl, rfl⟩
       go_wp2_with fail
       refine (needs_calls [67] 66 g W c6).mono ?_
       rintro e w2 ⟨rfl, rfl⟩
       go_wp2_with fail
       refine (needs_calls [67] 84 g W c6).mono ?_
       rintro e w2 ⟨rfl, rfl⟩
       go_wp2_with fail
       go_ret
       exact ⟨by rw [HE.out]; simp [errOf, zty], HBL.out⟩
     case pos =>
       subst zty
       by_cases znm : nm = []
       case neg =>
         have y1 : (nm == []) = false := by rw [beq_eq_false_iff_ne]; exact znm
         have y2 : nm.isEmpty = false := by rw [List.isEmpty_eq_false_iff]; exact znm
         have y3 : (nm != []) = true := by rw [bne_iff_ne]; exact znm
         refine (needs_calls [67] 65 g W c6).mono ?_
         rintro e w2 ⟨rfl, rfl⟩
         go_wp2_with fail
         refine (needs_calls [67] 66 g W c6).mono ?_
         rintro e w2 ⟨rfl, rfl⟩
         go_wp2_with fail
         refine (needs_calls [67] 84 g W c6).mono ?_
         rintro e w2 ⟨rfl, rfl⟩
         go_wp2_with fail
         refine (needs_calls [67] 67 g W c6).mono ?_
         rintro e w2 ⟨rfl, rfl⟩
         go_wp2_with fail
         refine (needs_calls [67] 78 g W c6).mono ?_
         rintro e w2 ⟨rfl, rfl⟩
         go_wp2_with fail
         go_ret
         exact ⟨by rw [HE.out]; simp [errOf, znm], HBL.out⟩
       case pos =>
         subst znm
         refine (needs_calls [67] 65 g W c6).mono ?_
         rintro e w2 ⟨rfl, rfl⟩
         go_wp2_with fail
         refine (needs_calls [67] 66 g W c6).mono ?_
         rintro e w2 ⟨rfl, rfl⟩
         go_wp2_with fail
         refine (needs_calls [67] 84 g W c6).mono ?_
         rintro e w2 ⟨rfl, rfl⟩
         go_wp2_with fail
         refine (needs_calls [67] 67 g W c6).mono ?_
         rintro e w2 ⟨rfl, rfl⟩
         go_wp2_with fail
         refine (needs_calls [67] 78 g W c6).mono ?_
         rintro e w2 ⟨rfl, rfl⟩
         go_wp2_with fail
         refine (HR.out _).mono ?_
         rintro e w2 ⟨rfl, hb2⟩
         obtain ⟨hbl2, hlt2, hg12, hg22, c02, c12, c22, c32, c42, c52, c62⟩ := HX.out.below hb2
         have HBL2 := Hd hbl2
         clear hbl2
         cases rB
         · go_wp2_with fail
           go_ret
           exact ⟨by rw [HE.out]; simp [errOf], HBL2.out⟩
         go_wp2_with fail
         refine (HT.out _).mono ?_
         rintro e w3 ⟨rfl, hb3⟩
         obtain ⟨hbl3, hlt3, hg13, hg23, c03, c13, c23, c33, c43, c53, c63⟩ := (HX.out.below hb2).below hb3
         have HBL3 := Hd hbl3
         clear hbl3 c02 c12 c22 c32 c42 c52 c62
         cases tB
         · go_wp2_with fail
           go_ret
           exact ⟨by rw [HE.out]; simp [errOf], HBL3.out⟩
         go_wp2_with fail
         refine (needs_calls [67] 67 g w3 c63).mono ?_
         rintro e w4 ⟨rfl, rfl⟩
         go_wp2_with fail
         refine (HC.out _).mono ?_
         rintro e w4 ⟨rfl, hb4⟩
         obtain ⟨hbl4, hlt4, hg14, hg24, c04, c14, c24, c34, c44, c54, c64⟩ := ((HX.out.below hb2).below hb3).below hb4
         have HBL4 := Hd hbl4
         clear hbl4 c03 c13 c23 c33 c43 c53 c63
         cases cB
         · go_wp2_with fail
           go_ret
           exact ⟨by rw [HE.out]; simp [errOf], HBL4.out⟩
         go_wp2_with fail
         refine (needs_calls [67] 78 g w4 c64).mono ?_
         rintro e w5 ⟨rfl, rfl⟩
         go_wp2_with fail
         go_ret
         exact ⟨by rw [HE.out]; simp [errOf], HBL4.out⟩
end Go.Proofs.YtddbnboicmaooaaGreatDoor
