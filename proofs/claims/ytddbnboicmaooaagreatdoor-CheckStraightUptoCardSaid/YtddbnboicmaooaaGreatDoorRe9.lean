import Derived.Test.YtddbnboicmaooaaGreatDoorRe8
namespace Go.Proofs.YtddbnboicmaooaaGreatDoor
set_option maxRecDepth 100000
set_option maxHeartbeats 16000000
set_option linter.unusedVariables false
set_option linter.unusedSimpArgs false
open Go.RowKit Go.Shelf Go.Lib
def UpOk (l : List ClassR) (O : List Nm) : Prop := ∃ I N, O = I ++ N ∧ I.length ≤ 9 ∧ N.Nodup ∧ ∀ x ∈ N, x ∈ univ l
theorem UpOk.start {l : List ClassR} {I : List Nm} (h : I.length ≤ 9) : UpOk l I := ⟨I, [], by simp, h, by simp, by simp⟩
theorem UpOk.more {l : List ClassR} {O : List Nm} {x : Nm} (h : UpOk l O) (hx : x ∈ univ l) (hn : O.contains x = false) : UpOk l (O ++ [x]) := by
 obtain ⟨I, N, rfl, h1, h2, h3⟩ := h
 refine ⟨I, N ++ [x], by simp, h1, ?_, fun y hy => ?_⟩
 · rw [List.nodup_append]
   refine ⟨h2, by simp, fun a ha b hb e => ?_⟩
   rw [List.mem_singleton] at hb
   subst hb
   subst e
   have : (I ++ N).contains a = true := by simp [ha]
   rw [this] at hn; cases hn
 · rcases List.mem_append.1 hy with h | h
   · exact h3 y h
   · rw [List.mem_singleton.1 h]; exact hx
theorem UpOk.len {l : List ClassR} {O : List Nm} (h : UpOk l O) (hu : (univ l).length ≤ 91) : O.length ≤ 100 := by
 obtain ⟨I, N, rfl, h1, h2, h3⟩ := h
 have := nodup_len h2 h3
 rw [List.length_append]
 omega
def StrOwn (w : World) (e : Ending) (w' : World) : Prop := Below w.heap.size w w' ∧ ∃ (v : Value) (A : List Nm), e = .returned v ∧ w'.ownsRow w.heap.size 9 1 v A.length (A.map strV) ∧ A.length ≤ 100
theorem upward_calls (l : List ClassR) (ps : List CAddr) (a : Option Addr) (cap : Nat) (n : Nm) (w : World) (hC : ClassesAt w a cap l ps) (hll : l.length ≤ 10) (h8 : ∀ c ∈ l, c.faces.length ≤ 8) :
   Calls Tryz.prog 80 #[.slice a l.length cap, .string ⟨⟨n⟩⟩] w (StrOwn w) := by
 have HAB := Hd (fun n W (hw : Below w.heap.size w W) => rabove_calls l ps a cap n W (hC.below hw) (by omega) h8)
 have HU := Hd (univ_len h8 hll)
 clear hC h8
 go_enter Tryz.func80, Tryz.ntmps80
 go_wp2_with fail
 refine (HAB.out _ _ (Below.refl _ _)).mono ?_
 rintro e w2 ⟨hb2, v2, I, rfl, ho2, hI9, hIu⟩
 obtain ⟨A2, C2, rfl, _⟩ := slice_of_own ho2
 have HB2 := Hd hb2
 have HO2 := Hd ho2
 have HUP := Hd (UpOk.start (l := l) hI9)
 clear hb2 ho2 hI9 hIu
 go_wp2_with fail
 go_loopw [5, 6] (fun v i wr => ∃ (O : List Nm) (k : Nat) (A : Option Addr) (C : Nat), Hid (UpOk l O) ∧ k ≤ O.length ∧ i = .int .i64 k ∧ v = .slice A O.length C ∧ wr.ownsRow w.heap.size 9 1 (.slice A O.length C) O.length (O.map strV) ∧ Below w.heap.size w wr) (fun _ i _ => 200 - (RowKit.intOf i).toNat)
 case atStart => exact ⟨I, 0, _, _, HUP, by omega, rfl, rfl, HO2.out, HB2.out⟩
 case round =>
   obtain ⟨O, k, A, C, HS, hk, rfl, rfl, ho, hb⟩ := hrel
   have HO := Hd ho
   have HB := Hd hb
   have hsz := hb.size
   have hlen := HS.out.len HU.out
   by_cases hlk : k < O.length
   · obtain ⟨x, hx⟩ : ∃ x, O[k]? = some x := ⟨_, List.getElem?_eq_getElem hlk⟩
     obtain ⟨a', cap', hv', hsr⟩ := srow_of_own ho
     simp only [Value.slice.injEq] at hv'
     obtain ⟨rfl, _, rfl⟩ := hv'
     obtain ⟨b1, off, rfl, hlt, d0⟩ := strs_cell hsr hx
     have HLT := Hd hlt
     clear ho hb hsr hx
     go_wp2_with fail
     refine (HAB.out _ _ HB.out).mono ?_
     rintro e w3 ⟨hb3, v3, M, rfl, ho3, hM9, hMu⟩
     obtain ⟨aM, cM, hv3, hrM⟩ := srow_of_own ho3
     subst hv3
     have HMU := Hd hMu
     have HB3 := Hd (bl_trans HB.out hb3)
     have HO3 := Hd (own_below HO.out hb3)
     have HRM := Hd hrM
     have HAP := Hd (show M = [] ∨ ∀ ad, aM = some ad → ad.block ≠ b1 from Or.inr (fun ad e => by
       have := (ho3.lt ad.block (by rw [e]; rfl)).1
       have := HLT.out
       omega))
     clear hb3 ho3 hrM hMu hlt d0
     go_wp2_with fail
     go_loopw [5, 8] (fun v j wq => ∃ (O2 : List Nm) (m : Nat) (g2 off2 C2 : Nat), Hid (UpOk l O2) ∧ m ≤ M.length ∧ k < O2.length ∧ j = .int .i64 m ∧ v = .slice (some ⟨g2, off2, none⟩) O2.length C2 ∧ wq.ownsRow w.heap.size 9 1 (.slice (some ⟨g2, off2, none⟩) O2.length C2) O2.length (O2.map strV) ∧ Below w.heap.size w wq ∧ SRow wq aM cM M ∧ Hid (M = [] ∨ ∀ ad, aM = some ad → ad.block ≠ g2)) (fun _ j _ => M.length - (RowKit.intOf j).toNat)
     case atStart => exact ⟨O, 0, b1, off, _, HS, by omega, hlk, rfl, rfl, HO3.out, HB3.out, HRM.out, HAP⟩
     case round =>
       obtain ⟨O2, m, g2, off2, C2, HI, hm, hk2, rfl, rfl, ho, hb, hr, HAP2⟩ := hrel
       have HO4 := Hd ho
       have HB4 := Hd hb
       have HR4 := Hd hr
       have hszq := hb.size
       have hlen2 := HI.out.len HU.out
       by_cases hmk : m < M.length
       · obtain ⟨y, hy⟩ : ∃ y, M[m]? = some y := ⟨_, List.getElem?_eq_getElem hmk⟩
         obtain ⟨b3, off3, rfl, hlt3, e0⟩ := strs_cell hr hy
         obtain ⟨a4, cap4, hv4, hsr4⟩ := srow_of_own ho
         simp only [Value.slice.injEq] at hv4
         obtain ⟨rfl, _, rfl⟩ := hv4
         have HIN := Hd (rin_calls O2 y _ _ _ hsr4 (by omega))
         have HYU := Hd (HMU.out y (List.mem_of_getElem? hy))
         clear ho hb hr hy hsr4
         generalize hct : O2.contains y = ct at HIN
         have HCT := Hd hct
         clear hct
         go_wp2_with fail
         refine HIN.out.mono ?_
         rintro e w5 ⟨rfl, rfl⟩
         cases ct with
         | true =>
           clear HCT HYU
           go_wp2_with fail
           go_roundw
           case rel => exact ⟨O2, m + 1, g2, off2, C2, HI, by omega, hk2, by go_num, rfl, HO4.out, HB4.out, HR4.out, HAP2⟩
           case measure => simp [RowKit.intOf]; omega
         | false =>
           have HI2 := Hd (HI.out.more HYU.out HCT.out)
           clear HCT HYU
           go_wp2_with (at_builtin; refine wpList_append_str rfl _ _ rfl w.heap.size _ O2.length (O2.map strV) rfl ?c0 y _ rfl ?cg ?c2 ?c4 ?_)
           case c0 => exact HO4.out
           case cg => rfl
           case c2 => omega
           case c4 => exact hszq
           intro g4 C4 w4 ho4 hg4 hat
           have hb4 := grown_below hszq HO4.out hg4
           have HB5 := Hd (HB4.out.trans hb4)
           have ho5 : w4.ownsRow w.heap.size 9 1 (.slice (some ⟨g4, 0, none⟩) (O2.length + 1) C4) (O2 ++ [y]).length ((O2 ++ [y]).map strV) := by
             rw [List.length_append, List.length_singleton, List.map_append]; exact ho4
           have HO5 := Hd ho5
           have HR5 := Hd (srow_grown (n := O2.length) (c := C2) HR4.out hg4 HAP2.out)
           have HAP4 := Hd (show M = [] ∨ ∀ ad, some (⟨b3, off3, none⟩ : Addr) = some ad → ad.block ≠ g4 from by
             rcases HAP2.out with h | h
             · exact Or.inl h
             · right
               intro ad had
               cases had
               rcases hat with e | e
               · simp [Value.ownBlock] at e
                 rw [← e]; exact h _ rfl
               · show b3 ≠ g4
                 omega)
           clear ho4 hg4 hb4 ho5 hat
           go_wp2_with fail
           go_roundw
           case rel => exact ⟨O2 ++ [y], m + 1, g4, 0, C4, HI2, by omega, by simp; omega, by go_num, by simp, by simpa using HO5.out, HB5.out, HR5.out, HAP4⟩
           case measure => simp [RowKit.intOf]; omega
       · obtain rfl : m = M.length := by omega
         clear ho hb hr
         go_wp2_with fail
         go_roundw
         case rel => exact ⟨O2, k + 1, _, C2, HI, by omega, by go_num, rfl, HO4.out, HB4.out⟩
         case measure => simp [RowKit.intOf]; omega
   · obtain rfl : k = O.length := by omega
     clear ho hb
     go_wp2_with fail
     go_ret
     exact ⟨HB.out, _, O, rfl, HO.out, hlen⟩
theorem joinedFault_calls (l : List ClassR) (ps : List CAddr) (a : Option Addr) (cap : Nat) (c : ClassR) (p : CAddr) (w : World) (hC : ClassesAt w a cap l ps) (hll : l.length ≤ 10) (hR : SRow w p.fa p.fc c.faces) (h8 : c.faces.length ≤ 8) :
   Calls Tryz.prog 78 #[.slice a l.length cap, classV c p] w (SomeE w) := by
 have HCO := Hd (fun n W (hw : Below w.heap.size w W) => rclassOf_calls l ps a cap n W (hC.below hw) (by omega))
 obtain ⟨w1, hw1⟩ : ∃ w1, w1 = w.alloc (.cells (cArr (c, p)) 50) := ⟨_, rfl⟩
 have HX := Hd (show Blk w1 w.heap.size 50 (cArr (c, p)) by rw [hw1]; exact blk_new _ _ _ _ rfl)
 have hb1 : Below w.heap.size w w1 := by rw [hw1]; exact bl_alloc (Below.refl _ _) _
 have HB1 := Hd hb1
 have HS1 := Hd (hR.below hb1)
 unfold cArr at hw1 HX
 unfold classV
 clear hC hR hb1
 go_enter Tryz.func78, Tryz.ntmps78
 go_upto_region 1 with fail
 rw [← hw1]
 clear hw1
 have g1 := HX.out.cell 1
 have g2 := HX.out.cell 2
 have g8 := HX.out.lt
 by_cases hs : c.sup = []
 · go_wp2_with fail
   go_ret
   exact ⟨⟨_, rfl⟩, HB1.out⟩
 have q1 : c.sup.isEmpty = false := by cases hh : c.sup with | nil => exact absurd hh hs | cons a b => rfl
 have q2 : (c.sup == []) = false := by rw [beq_eq_false_iff_ne]; exact hs
 go_wp2_with (at_builtin; refine wpList_append_src0 rowStr rfl _ _ rfl w.heap.size _ 1 [strV c.sup] rfl ?c0 _ c.faces.length (c.faces.map strV) rfl ?c1 ?c2 ?c3 ?c4 ?_)
 case c0 => exact World.ownsRow_lit _ _ _ HB1.out.size (by unfold maxLen; omega) rfl
 case c1 => exact src_of_strs (HS1.out.below (bl_alloc (Below.refl _ _) _))
 case c2 => omega
 case c3 => omega
 case c4 => have := HB1.out.size; simp; omega
 intro v4 w4 ho4 hg4
 have hb4 : Below w1.heap.size w1 w4 := (bl_alloc (Below.refl _ _) _).grown hg4 (by simp) (fun k hk => by simp [Value.ownBlock] at hk; omega)
 have HB4 := Hd (bl_trans HB1.out hb4)
 have HX4 := Hd (HX.out.below hb4)
 obtain ⟨A, hA⟩ : ∃ A : List Nm, A = c.sup :: c.faces := ⟨_, rfl⟩
 obtain ⟨aA, cA, rfl, hrA⟩ := srow_of_own (show w4.ownsRow w.heap.size 9 1 v4 A.length (A.map strV) by rw [hA, List.length_cons, Nat.add_comm]; exact ho4)
 have hAl : A.length ≤ 9 := by rw [hA]; simp; omega
 rw [show (1 : Nat) + c.faces.length = A.length by rw [hA]; simp; omega] at *
 have HR4 := Hd hrA
 clear ho4 hg4 hb4 g1 g2 g8 hA hrA hs q1 q2
 go_wp2_with fail
 go_loopw [6] (fun i wr => ∃ k : Nat, k ≤ A.length ∧ i = .int .i64 k ∧ Below w4.heap.size w4 wr) (fun i _ => A.length - (RowKit.intOf i).toNat)
 case atStart => exact ⟨0, by omega, rfl, Below.refl _ _⟩
 case round =>
   obtain ⟨k, hk, rfl, hb⟩ := hrel
   have HB := Hd (bl_trans HB4.out hb)
   have HBr := Hd hb
   have i0 : (0 : Int) ≤ k := Int.natCast_nonneg _
   have hwr : wrap64 ((k : Int) + 1) = (k : Int) + 1 := IntWalk.wrap64_in _ (by omega)
   by_cases he : k < A.length
   · have i1 : (k : Int) < A.length := by omega
     obtain ⟨x, hx⟩ : ∃ x, A[k]? = some x := ⟨_, List.getElem?_eq_getElem he⟩
     obtain ⟨b, off, rfl, hlt, c0⟩ := strs_cell (HR4.out.below hb) hx
     clear hb hx
     go_wp2_with fail
     refine (HCO.out _ _ HB.out).mono ?_
     rintro e w5 ⟨hb5, d, q, bb, rfl, _⟩
     have HB5 := Hd (fun o => bl_alloc (bl_trans HBr.out hb5) o)
     clear hb5 c0 hlt
     unfold classV
     cases bb with
     | false =>
       go_wp2_with fail
       go_ret
       exact ⟨⟨_, rfl⟩, bl_trans HB4.out (HB5.out _)⟩
     | true =>
       go_wp2_with fail
       go_roundw
       case rel => exact ⟨k + 1, by omega, by simp, HB5.out _⟩
       case measure => simp [RowKit.intOf]; omega
   · obtain rfl : k = A.length := by omega
     clear hk hwr i0 hb
     go_wp2_with fail
     go_loopw [9] (fun i wq => ∃ k : Nat, k ≤ A.length ∧ i = .int .i64 k ∧ Below w4.heap.size w4 wq) (fun i _ => A.length - (RowKit.intOf i).toNat)
     case atStart => exact ⟨0, by omega, rfl, HBr.out⟩
     case round =>
       obtain ⟨k, hk, rfl, hb⟩ := hrel
       have HB2 := Hd (bl_trans HB4.out hb)
       have HBq := Hd hb
       have i0 : (0 : Int) ≤ k := Int.natCast_nonneg _
       have hwr : wrap64 ((k : Int) + 1) = (k : Int) + 1 := IntWalk.wrap64_in _ (by omega)
       by_cases he2 : k < A.length
       · have i1 : (k : Int) < A.length := by omega
         obtain ⟨x, hx⟩ : ∃ x, A[k]? = some x := ⟨_, List.getElem?_eq_getElem he2⟩
         obtain ⟨b, off, rfl, hlt, c0⟩ := strs_cell (HR4.out.below hb) hx
         clear hb hx
         go_wp2_with fail
         refine (HCO.out _ _ HB2.out).mono ?_
         rintro e w5 ⟨hb5, d, q, bb, rfl, _⟩
         have HB5 := Hd (fun o => bl_alloc (bl_trans HBq.out hb5) o)
         clear hb5 c0 hlt
         unfold classV
         go_wp2_with fail
         · go_ret
           exact ⟨⟨_, rfl⟩, bl_trans HB4.out (HB5.out _)⟩
         · go_roundw
           case rel => exact ⟨k + 1, by omega, by simp, HB5.out _⟩
           case measure => simp [RowKit.intOf]; omega
       · obtain rfl : k = A.length := by omega
         have g1 := (HX4.out.below hb).cell 1
         have g3 := (HX4.out.below hb).cell 3
         have g8 := (HX4.out.below hb).lt
         clear hb
         cases hfc : c.face with
         | false =>
           rw [hfc] at g3
           go_wp2_with fail
           go_ret
           exact ⟨⟨_, rfl⟩, HB2.out⟩
         | true =>
           rw [hfc] at g3
           go_wp2_with fail
           all_goals (go_ret; exact ⟨⟨_, rfl⟩, HB2.out⟩)
end Go.Proofs.YtddbnboicmaooaaGreatDoor
