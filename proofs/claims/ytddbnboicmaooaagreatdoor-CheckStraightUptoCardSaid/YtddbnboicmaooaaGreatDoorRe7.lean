import Derived.Test.YtddbnboicmaooaaGreatDoorRef7A
import Derived.Test.YtddbnboicmaooaaGreatDoorRef7B
import Derived.Test.YtddbnboicmaooaaGreatDoorRef7C
import Derived.Test.YtddbnboicmaooaaGreatDoorRef7D
namespace Go.Proofs.YtddbnboicmaooaaGreatDoor
set_option maxRecDepth 100000
set_option maxHeartbeats 16000000
set_option linter.unusedVariables false
set_option linter.unusedSimpArgs false
open Go.RowKit Go.Shelf Go.Lib
theorem rins_off (x : InsR) (h : x.op < 1 ∨ 28 < x.op) (w : World) : Calls Tryz.prog 224 #[insV x] w (SomeE w) := by
 obtain ⟨op, ia, ib, ty, cl, nm⟩ := x
 dsimp only at h
 obtain ⟨w1, hw1⟩ : ∃ w1, w1 = w.alloc (.cells (insArr ⟨op, ia, ib, ty, cl, nm⟩) 40) := ⟨_, rfl⟩
 have HX := Hd (show Blk w1 w.heap.size 40 (insArr ⟨op, ia, ib, ty, cl, nm⟩) by rw [hw1]; exact blk_new _ _ _ _ rfl)
 have HB1 := Hd (show Below w.heap.size w w1 by rw [hw1]; exact bl_alloc (Below.refl _ _) _)
 unfold insArr at hw1 HX
 unfold insV
 have e0 := HX.out.cell 0
 have e6 := HX.out.lt
 rcases h with h | h
 all_goals
   go_enter Tryz.func224, Tryz.ntmps224
   go_upto_region 1 with fail
   rw [← hw1]
   clear hw1
   go_wp2_with fail
   all_goals (go_ret; exact ⟨⟨_, rfl⟩, HB1.out⟩)
theorem rinsFault_calls (x : InsR) (hty : x.ty.length ≤ 8388608) (w : World) : Calls Tryz.prog 224 #[insV x] w (SomeE w) := by
 by_cases h : x.op < 1 ∨ 28 < x.op
 · exact rins_off x h w
 · obtain ⟨op, ia, ib, ty, cl, nm⟩ := x
   dsimp only at h hty
   have h2 : op = 1 ∨ op = 2 ∨ op = 3 ∨ op = 4 ∨ op = 5 ∨ op = 6 ∨ op = 7 ∨ op = 8 ∨ op = 9 ∨ op = 10 ∨ op = 11 ∨ op = 12 ∨ op = 13 ∨ op = 14 ∨ op = 15 ∨ op = 16 ∨ op = 17 ∨ op = 18 ∨ op = 19 ∨ op = 20 ∨ op = 21 ∨ op = 22 ∨ op = 23 ∨ op = 24 ∨ op = 25 ∨ op = 26 ∨ op = 27 ∨ op = 28 := by omega
   rcases h2 with rfl | rfl | rfl | rfl | rfl | rfl | rfl | rfl | rfl | rfl | rfl | rfl | rfl | rfl | rfl | rfl | rfl | rfl | rfl | rfl | rfl | rfl | rfl | rfl | rfl | rfl | rfl | rfl
   · exact rins1 ia ib ty cl nm hty w
   · exact rins2 ia ib ty cl nm hty w
   · exact rins3 ia ib ty cl nm hty w
   · exact rins4 ia ib ty cl nm hty w
   · exact rins5 ia ib ty cl nm hty w
   · exact rins6 ia ib ty cl nm hty w
   · exact rins7 ia ib ty cl nm hty w
   · exact rins8 ia ib ty cl nm hty w
   · exact rins9 ia ib ty cl nm hty w
   · exact rins10 ia ib ty cl nm hty w
   · exact rins11 ia ib ty cl nm hty w
   · exact rins12 ia ib ty cl nm hty w
   · exact rins13 ia ib ty cl nm hty w
   · exact rins14 ia ib ty cl nm hty w
   · exact rins15 ia ib ty cl nm hty w
   · exact rins16 ia ib ty cl nm hty w
   · exact rins17 ia ib ty cl nm hty w
   · exact rins18 ia ib ty cl nm hty w
   · exact rins19 ia ib ty cl nm hty w
   · exact rins20 ia ib ty cl nm hty w
   · exact rins21 ia ib ty cl nm hty w
   · exact rins22 ia ib ty cl nm hty w
   · exact rins23 ia ib ty cl nm hty w
   · exact rins24 ia ib ty cl nm hty w
   · exact rins25 ia ib ty cl nm hty w
   · exact rins26 ia ib ty cl nm hty w
   · exact rins27 ia ib ty cl nm hty w
   · exact rins28 ia ib ty cl nm hty w
theorem codeFault_calls (l : List InsR) (a : Option Addr) (cap : Nat) (w : World) (hC : CodeAt w a cap l) (hl : l.length ≤ 100000000) (hty : ∀ x ∈ l, x.ty.length ≤ 8388608) :
   Calls Tryz.prog 198 #[.slice a l.length cap] w (SomeE w) := by
 have HC := Hd hC
 have HIN := Hd (fun (x : InsR) (h : x ∈ l) W => rinsFault_calls x (hty x h) W)
 have HJ := Hd (fun n W => rjumps_calls n W)
 have HE := Hd (fun n W => rends_calls n W)
 clear hC hty
 by_cases h40 : 40 < l.length
 · have i40 : (40 : Int) < l.length := by omega
   go_enter Tryz.func198, Tryz.ntmps198
   go_wp2_with fail
   go_ret
   exact ⟨⟨_, rfl⟩, Below.refl _ _⟩
 have i40 : ¬ (40 : Int) < l.length := by omega
 go_enter Tryz.func198, Tryz.ntmps198
 go_wp2_with fail
 go_loopw [3] (fun i wr => ∃ k : Nat, k ≤ l.length ∧ i = .int .i64 k ∧ Below w.heap.size w wr) (fun i _ => l.length - (RowKit.intOf i).toNat)
 case atStart => exact ⟨0, by omega, rfl, Below.refl _ _⟩
 case round =>
   obtain ⟨k, hk, rfl, hb⟩ := hrel
   have HB := Hd hb
   have i0 : (0 : Int) ≤ k := Int.natCast_nonneg _
   have hwr : wrap64 ((k : Int) + 1) = (k : Int) + 1 := IntWalk.wrap64_in _ (by omega)
   by_cases he : k < l.length
   · have i1 : (k : Int) < l.length := by omega
     obtain ⟨x, hx⟩ : ∃ x, l[k]? = some x := ⟨_, List.getElem?_eq_getElem he⟩
     obtain ⟨b, off, rfl, hlt, c0, c1, c2, c3, c4, c5⟩ := (HC.out.below hb).cells hx
     have HI := Hd (fun W => HIN.out x (List.mem_of_getElem? hx) W)
     unfold insV at HI
     clear hb hx
     go_wp2_with fail
     refine (HI.out _).mono ?_
     rintro e w2 ⟨⟨n, rfl⟩, hb2⟩
     have HB2 := Hd (HB.out.trans (hb2.mono HB.out.size))
     clear hb2 c0 c1 c2 c3 c4 c5
     go_wp2_with fail
     · go_ret
       exact ⟨⟨_, rfl⟩, HB2.out⟩
     · go_roundw
       case rel => exact ⟨k + 1, by omega, by simp, HB2.out⟩
       case measure => simp [RowKit.intOf]; omega
   · obtain rfl : k = l.length := by omega
     clear hb hwr i0 hk
     go_wp2_with fail
     go_loopw [5] (fun i wq => ∃ k : Nat, k ≤ l.length ∧ i = .int .i64 k ∧ Below w.heap.size w wq) (fun i _ => l.length - (RowKit.intOf i).toNat)
     case atStart => exact ⟨0, by omega, rfl, HB.out⟩
     case round =>
       obtain ⟨k, hk, rfl, hb⟩ := hrel
       have HBq := Hd hb
       have i0 : (0 : Int) ≤ k := Int.natCast_nonneg _
       have hwr : wrap64 ((k : Int) + 1) = (k : Int) + 1 := IntWalk.wrap64_in _ (by omega)
       by_cases he2 : k < l.length
       · have i1 : (k : Int) < l.length := by omega
         obtain ⟨x, hx⟩ : ∃ x, l[k]? = some x := ⟨_, List.getElem?_eq_getElem he2⟩
         obtain ⟨b, off, rfl, hlt, c0, c1, c2, c3, c4, c5⟩ := (HC.out.below hb).cells hx
         clear hb hx
         go_wp2_with fail
         refine (HJ.out _ _).mono ?_
         rintro e w2 ⟨rfl, rfl⟩
         cases jumpsB x.op with
         | true =>
           go_wp2_with fail
           · go_ret
             exact ⟨⟨_, rfl⟩, HBq.out⟩
           · go_roundw
             case rel => exact ⟨k + 1, by omega, by simp, HBq.out⟩
             case measure => simp [RowKit.intOf]; omega
         | false =>
           go_wp2_with fail
           go_roundw
           case rel => exact ⟨k + 1, by omega, by simp, HBq.out⟩
           case measure => simp [RowKit.intOf]; omega
       · obtain rfl : k = l.length := by omega
         by_cases h0 : l.length = 0
         · have j0 : ((l.length : Int) == 0) = true := by rw [h0]; rfl
           clear hb
           go_wp2_with fail
           go_ret
           exact ⟨⟨_, rfl⟩, HBq.out⟩
         · have j0 : ((l.length : Int) == 0) = false := by rw [beq_eq_false_iff_ne]; omega
           have j1 : wrap64 ((l.length : Int) - 1) = ((l.length - 1 : Nat) : Int) := by rw [IntWalk.wrap64_in _ (by omega)]; omega
           have j2 : (0 : Int) ≤ ((l.length - 1 : Nat) : Int) := by omega
           have j3 : ((l.length - 1 : Nat) : Int) < (l.length : Int) := by omega
           obtain ⟨x, hx⟩ : ∃ x, l[l.length - 1]? = some x := ⟨_, List.getElem?_eq_getElem (by omega)⟩
           obtain ⟨b, off, rfl, hlt, c0, c1, c2, c3, c4, c5⟩ := (HC.out.below hb).cells hx
           clear hb hx h0
           go_wp2_with fail
           refine (HE.out _ _).mono ?_
           rintro e w2 ⟨⟨bb, rfl⟩, hb2⟩
           have HB3 := Hd (HBq.out.trans (hb2.mono HBq.out.size))
           clear hb2
           cases bb <;> (go_wp2_with fail; go_ret; exact ⟨⟨_, rfl⟩, HB3.out⟩)
theorem handlersFault_calls (l : List HandR) (a : Option Addr) (cap : Nat) (m : Int) (w : World) (hC : HandsAt w a cap l) (hl : l.length ≤ 100000000) :
   Calls Tryz.prog 199 #[.slice a l.length cap, .int .i64 m] w (SomeE w) := by
 have HC := Hd hC
 have HN := Hd (fun s W => rname_calls s W)
 clear hC
 go_enter Tryz.func199, Tryz.ntmps199
 go_wp2_with fail
 go_loopw [5] (fun i wr => ∃ k : Nat, k ≤ l.length ∧ i = .int .i64 k ∧ Below w.heap.size w wr) (fun i _ => l.length - (RowKit.intOf i).toNat)
 case atStart => exact ⟨0, by omega, rfl, Below.refl _ _⟩
 case round =>
   obtain ⟨k, hk, rfl, hb⟩ := hrel
   have HB := Hd hb
   have i0 : (0 : Int) ≤ k := Int.natCast_nonneg _
   have hwr : wrap64 ((k : Int) + 1) = (k : Int) + 1 := IntWalk.wrap64_in _ (by omega)
   by_cases he : k < l.length
   · have i1 : (k : Int) < l.length := by omega
     obtain ⟨x, hx⟩ : ∃ x, l[k]? = some x := ⟨_, List.getElem?_eq_getElem he⟩
     obtain ⟨b, off, rfl, hlt, c0, c1, c2, c3⟩ := (HC.out.below hb).cells hx
     obtain ⟨lo, hi, at_, cl⟩ := x
     clear hb hx
     have HB2 := Hd (fun o => HB.out.alloc HB.out.size o)
     go_wp2_with fail
     all_goals first
       | (with_reducible refine (HN.out _ _).mono ?_
          rintro e w2 ⟨rfl, hb2⟩
          have HB3 := Hd ((HB2.out (.cells #[.int .i64 lo, .int .i64 hi, .int .i64 at_, .string ⟨⟨cl⟩⟩] 206)).trans (hb2.mono (HB2.out _).size))
          clear hb2
          cases nameOk cl with
          | false =>
            go_wp2_with fail
            go_ret
            exact ⟨⟨_, rfl⟩, HB3.out⟩
          | true =>
            go_wp2_with fail
            go_roundw
            case rel => exact ⟨k + 1, by omega, by simp, HB3.out⟩
            case measure => simp [RowKit.intOf]; omega)
       | (go_ret; exact ⟨⟨_, rfl⟩, HB2.out _⟩)
   · obtain rfl : k = l.length := by omega
     clear hb
     go_wp2_with fail
     all_goals (go_ret; exact ⟨⟨_, rfl⟩, HB.out⟩)
theorem meths_len {w : World} {a : Option Addr} {cap : Nat} {l : List MethR} {ps : List MAddr} (h : MethsAt w a cap l ps) : l.length ≤ cap := by
 have := h.2.1.1
 rw [List.length_zipWith, h.1] at this
 omega
theorem methodFault_calls (m : MethR) (p : MAddr) (l : List MethR) (ps : List MAddr) (a : Option Addr) (cap : Nat) (w : World) (hM : MethAt w m p) (hA : MethsAt w a cap l ps) (hl : l.length ≤ 100000000) (hB : MethB m) :
   Calls Tryz.prog 142 #[methV m p, .slice a l.length cap] w (SomeE w) := by
 have HM := Hd hM
 have HA := Hd hA
 have HMB := Hd hB
 have HN := Hd (fun s W => rname_calls s W)
 have HMO := Hd (fun W => methodOf_calls m.ty hB.ty W)
 have HCF := Hd (fun W (hw : Below w.heap.size w W) => codeFault_calls m.code p.ca p.cc W (hM.1.below hw) hB.code hB.tys)
 have HHF := Hd (fun n W (hw : Below w.heap.size w W) => handlersFault_calls m.hs p.ha p.hc n W (hM.2.below hw) hB.hs)
 have hcl := hB.code
 have hhl := hB.hs
 obtain ⟨w1, hw1⟩ : ∃ w1, w1 = w.alloc (.cells (mArr m p) 45) := ⟨_, rfl⟩
 have HX := Hd (show Blk w1 w.heap.size 45 (mArr m p) by rw [hw1]; exact blk_new _ _ _ _ rfl)
 have HB1 := Hd (show Below w.heap.size w w1 by rw [hw1]; exact bl_alloc (Below.refl _ _) _)
 rw [methV_arr]
 unfold mArr at hw1 ⊢
 clear hM hA hB
 go_enter Tryz.func142, Tryz.ntmps142
 go_upto_region 1 with fail
 rw [← hw1]
 clear hw1
 obtain ⟨g0, g1, g2, g3, g4, g5, g6, g7⟩ := mblk_cells HX.out
 have g8 := HX.out.lt
 go_wp2_with fail
 refine (HMO.out _).mono ?_
 rintro e w2 ⟨hb2, hres⟩
 obtain ⟨av, an, ac, gv, is, rfl⟩ : ∃ av an ac gv is, e = .returned (.tuple #[.slice av an ac, .string ⟨⟨gv⟩⟩, .bool is]) := by
   rcases hres with ⟨rfl, _⟩ | ⟨v, A, g, rfl, _, ho⟩
   · exact ⟨_, _, _, _, _, rfl⟩
   · obtain ⟨a, c, rfl, _⟩ := slice_of_own ho
     exact ⟨_, _, _, _, _, rfl⟩
 have han : an ≤ 5 := by
   rcases hres with ⟨h, _⟩ | ⟨v, A, g, h, hok, ho⟩
   · simp only [Ending.returned.injEq, Value.tuple.injEq] at h
     simp at h; omega
   · obtain ⟨a, c, rfl, _⟩ := slice_of_own ho
     simp at h
     have := hok.2.2.1
     omega
 have HB2 := Hd (bl_trans HB1.out hb2)
 have HX2 := Hd (HX.out.below hb2)
 clear hres g0 g1 g2 g3 g4 g5 g6 g7 g8 hb2 HMO
 obtain ⟨g0, g1, g2, g3, g4, g5, g6, g7⟩ := mblk_cells HX2.out
 have g8 := HX2.out.lt
 go_wp2_with fail
 refine (HN.out _ _).mono ?_
 rintro e w3 ⟨rfl, hb3⟩
 have HB3 := Hd (bl_trans HB2.out hb3)
 have HX3 := Hd (HX2.out.below hb3)
 clear g0 g1 g2 g3 g4 g5 g6 g7 g8 hb3
 cases nameOk m.nm with
 | false =>
   go_wp2_with fail
   go_ret
   exact ⟨⟨_, rfl⟩, HB3.out⟩
 | true =>
 cases is with
 | false =>
   go_wp2_with fail
   go_ret
   exact ⟨⟨_, rfl⟩, HB3.out⟩
 | true =>
 go_wp2_with fail
 go_loopw [8] (fun i wr => ∃ k : Nat, k ≤ l.length ∧ i = .int .i64 k ∧ Below w3.heap.size w3 wr) (fun i _ => l.length - (RowKit.intOf i).toNat)
 case atStart => exact ⟨0, by omega, rfl, Below.refl _ _⟩
 case round =>
   obtain ⟨k, hk, rfl, hb⟩ := hrel
   have HB := Hd (bl_trans HB3.out hb)
   have HBr := Hd hb
   have i0 : (0 : Int) ≤ k := Int.natCast_nonneg _
   have hwr : wrap64 ((k : Int) + 1) = (k : Int) + 1 := IntWalk.wrap64_in _ (by omega)
   have HXr := Hd (HX3.out.below hb)
   obtain ⟨g0, g1, g2, g3, g4, g5, g6, g7⟩ := mblk_cells HXr.out
   have g8 := HXr.out.lt
   by_cases he : k < l.length
   · have i1 : (k : Int) < l.length := by omega
     obtain ⟨x, hx⟩ : ∃ x, l[k]? = some x := ⟨_, List.getElem?_eq_getElem he⟩
     obtain ⟨b, off, q, rfl, hlt, _, _, c0, c1, c2, c3, c4, c5, c6, c7⟩ := (HA.out.below HB.out).cells hx
     clear hb hx
     cases q1 : x.nm == m.nm with
     | false =>
       go_upto_region 7 with fail
       go_quiet (fail)
       go_wp2_with fail
       go_roundw
       case rel => exact ⟨k + 1, by omega, by simp, below_dn HBr.out _⟩
       case measure => simp [RowKit.intOf]; omega
     | true =>
       cases q2 : x.ty == m.ty with
       | false =>
         go_upto_region 7 with fail
         go_quiet (fail)
         go_wp2_with fail
         go_roundw
         case rel => exact ⟨k + 1, by omega, by simp, below_dn HBr.out _⟩
         case measure => simp [RowKit.intOf]; omega
       | true =>
         go_upto_region 7 with fail
         go_quiet (fail)
         go_wp2_with fail
         go_ret
         exact ⟨⟨_, rfl⟩, below_dn HB.out _⟩
   · obtain rfl : k = l.length := by omega
     clear hb hwr i0 hk HA HN
     by_cases hL : m.loc < 0 ∨ 8 < m.loc
     · go_wp2_with fail
       all_goals (go_ret; exact ⟨⟨_, rfl⟩, HB.out⟩)
     have l0 : ¬ m.loc < 0 := fun h => hL (Or.inl h)
     have l8 : ¬ 8 < m.loc := fun h => hL (Or.inr h)
     clear hL
     go_wp2_with fail
     all_goals first
       | (with_reducible refine (HCF.out _ HB.out).mono ?_
          rintro e w5 ⟨⟨n, rfl⟩, hb5⟩
          have HB5 := Hd (bl_trans HB.out hb5)
          have HX5 := Hd (HXr.out.below hb5)
          clear hb5 g0 g1 g2 g3 g4 g5 g6 g7 g8
          obtain ⟨g0, g1, g2, g3, g4, g5, g6, g7⟩ := mblk_cells HX5.out
          have g8 := HX5.out.lt
          have hw1 : wrap64 ((an : Int) + 1) = (an : Int) + 1 := IntWalk.wrap64_in _ (by omega)
          go_wp2_with fail
          all_goals first
            | (go_loopw [11] (fun i wr => ∃ k : Nat, k ≤ m.code.length ∧ i = .int .i64 k ∧ Below w5.heap.size w5 wr) (fun i _ => m.code.length - (RowKit.intOf i).toNat)
               case atStart => exact ⟨0, by omega, rfl, Below.refl _ _⟩
               case round =>
                 obtain ⟨k, hk, rfl, hb⟩ := hrel
                 have HB6 := Hd (bl_trans HB5.out hb)
                 have HBr6 := Hd hb
                 have i0 : (0 : Int) ≤ k := Int.natCast_nonneg _
                 have hwr : wrap64 ((k : Int) + 1) = (k : Int) + 1 := IntWalk.wrap64_in _ (by omega)
                 have HX6 := Hd (HX5.out.below hb)
                 clear g0 g1 g2 g3 g4 g5 g6 g7 g8
                 obtain ⟨g0, g1, g2, g3, g4, g5, g6, g7⟩ := mblk_cells HX6.out
                 have g8 := HX6.out.lt
                 by_cases he : k < m.code.length
                 · have i1 : (k : Int) < m.code.length := by omega
                   obtain ⟨x, hx⟩ : ∃ x, m.code[k]? = some x := ⟨_, List.getElem?_eq_getElem he⟩
                   obtain ⟨b, off, hca, hlt, c0, c1, c2, c3, c4, c5⟩ := (HM.out.1.below HB6.out).cells hx
                   rw [hca] at g6
                   clear hb hx hca
                   by_cases hop : x.op = 4 ∨ x.op = 5
                   · cases q3 : decide (m.loc ≤ x.a) with
                     | true =>
                       rcases hop with hop | hop
                       · have q1 : (x.op == 4) = true := by rw [hop]; rfl
                         clear hop
                         go_upto_region 26 with fail
                         go_quiet (fail)
                         go_wp2_with fail
                         go_ret
                         exact ⟨⟨_, rfl⟩, below_dn HB6.out _⟩
                       · have q1 : (x.op == 4) = false := by rw [hop]; rfl
                         have q2 : (x.op == 5) = true := by rw [hop]; rfl
                         clear hop
                         go_upto_region 26 with fail
                         go_quiet (fail)
                         go_wp2_with fail
                         go_ret
                         exact ⟨⟨_, rfl⟩, below_dn HB6.out _⟩
                     | false =>
                       rcases hop with hop | hop
                       · have q1 : (x.op == 4) = true := by rw [hop]; rfl
                         clear hop
                         go_upto_region 26 with fail
                         go_quiet (fail)
                         go_wp2_with fail
                         go_roundw
                         case rel => exact ⟨k + 1, by omega, by simp, below_dn HBr6.out _⟩
                         case measure => simp [RowKit.intOf]; omega
                       · have q1 : (x.op == 4) = false := by rw [hop]; rfl
                         have q2 : (x.op == 5) = true := by rw [hop]; rfl
                         clear hop
                         go_upto_region 26 with fail
                         go_quiet (fail)
                         go_wp2_with fail
                         go_roundw
                         case rel => exact ⟨k + 1, by omega, by simp, below_dn HBr6.out _⟩
                         case measure => simp [RowKit.intOf]; omega
                   · have q1 : (x.op == 4) = false := by rw [beq_eq_false_iff_ne]; exact fun e => hop (Or.inl e)
                     have q2 : (x.op == 5) = false := by rw [beq_eq_false_iff_ne]; exact fun e => hop (Or.inr e)
                     clear hop
                     go_upto_region 26 with fail
                     go_quiet (fail)
                     go_wp2_with fail
                     go_roundw
                     case rel => exact ⟨k + 1, by omega, by simp, below_dn HBr6.out _⟩
                     case measure => simp [RowKit.intOf]; omega
                 · obtain rfl : k = m.code.length := by omega
                   clear hb
                   go_wp2_with fail
                   refine (HHF.out _ _ HB6.out).mono ?_
                   rintro e w7 ⟨⟨n, rfl⟩, hb7⟩
                   have HB7 := Hd (bl_trans HB6.out hb7)
                   clear hb7 g0 g1 g2 g3 g4 g5 g6 g7 g8
                   go_wp2_with fail
                   go_ret
                   exact ⟨⟨_, rfl⟩, HB7.out⟩)
            | (go_ret; exact ⟨⟨_, rfl⟩, HB5.out⟩))
       | (go_ret; exact ⟨⟨_, rfl⟩, HB.out⟩)
       | (exfalso; exact absurd (List.length_pos_iff.2 (by assumption)) (by assumption))
end Go.Proofs.YtddbnboicmaooaaGreatDoor
